/- Parts of the proof of the law FnExactDiffSnaps, joined into one text. -/
import Derived.Test.YtblejbgkcgajgaaGreatMFnExactDiffSnaps5
section
namespace Go.Proofs.YtblejbgkcgajgaaGreat.Q
open Go.RowKit Go.Proofs.YtblejbgkcgajgaaGreatW.PrintWords Go.Proofs.YtblejbgkcgajgaaGreatW.PrintLast Go.Proofs.YtblejbgkcgajgaaGreatW.PrintMore
attribute [local go_sem] max2_int min2_int max_two min_two max_three min_three max_four min_four   -- for this text's walks alone
set_option linter.unusedVariables false
set_option linter.unusedSimpArgs false
attribute [local go_sem] bin_leq bin_gtr bin_geq
def good27 (x : S27) : Prop := (fun s => s.size ≤ 9223372036854775807) x.f0 ∧ (fun n => (Lit.int .i64 n).wf = true) x.f1
set_option maxRecDepth 100000 in
theorem opens_27 : Opens Tryz.prog k27 27 good27 := by
  refine ⟨by kernel_rfl, fun enc w base spare held fuel cs x h => ?_⟩
  obtain ⟨xs, n, _, _, hcl, hxl, hf⟩ := DataW.trod_struct Tryz.underlying27 h
  have hcl2 : cs.length = 2 := hcl.trans (by kernel_rfl)
  obtain ⟨c0, c1, rfl⟩ : ∃ c0 c1, cs = [c0, c1] := by
    match cs, hcl2 with
    | [c0, c1], _ => exact ⟨c0, c1, rfl⟩
  have h0 := hf 0 _ rfl
  rw [List.getElem?_eq_getElem (show 0 < xs.length by rw [hxl]; decide)] at h0
  obtain ⟨v0, K0, G0⟩ := (opens_string Tryz.underlying9 (by kernel_rfl)).2 enc w base spare held n [c0] _ ((show DataW.trod enc Tryz.prog w base spare held n 9 [c0] = _ from (by first | exact h0 | (rw [show Tryz.prog.cellsOf 9 = 1 by kernel_rfl] at h0; exact h0))))
  have h1 := hf 1 _ rfl
  rw [List.getElem?_eq_getElem (show 1 < xs.length by rw [hxl]; decide)] at h1
  obtain ⟨v1, K1, G1⟩ := (opens_int (k := .i64) Tryz.underlying3 (by kernel_rfl)).2 enc w base spare held n [c1] _ ((show DataW.trod enc Tryz.prog w base spare held n 3 [c1] = _ from (by first | exact h1 | (rw [show Tryz.prog.cellsOf 3 = 1 by kernel_rfl] at h1; exact h1))))
  exact ⟨⟨v0, v1⟩, ⟨[c0], [c1], rfl, K0, K1⟩, ⟨G0, G1⟩⟩
end Go.Proofs.YtblejbgkcgajgaaGreat.Q
end

section
namespace Go.Proofs.YtblejbgkcgajgaaGreat.Q
open Go.RowKit Go.Proofs.YtblejbgkcgajgaaGreatW.PrintWords Go.Proofs.YtblejbgkcgajgaaGreatW.PrintLast Go.Proofs.YtblejbgkcgajgaaGreatW.PrintMore
attribute [local go_sem] max2_int min2_int max_two min_two max_three min_three max_four min_four   -- for this text's walks alone
set_option linter.unusedVariables false
set_option linter.unusedSimpArgs false
attribute [local go_sem] bin_leq bin_gtr bin_geq
def laws_FnExactDiffSnaps.Pure : Prop := ∀ (l0_0 : List (S75)) (l0_1 : List (S89)) (a1_0 : ByteArray) (a1_1 : Int) (a2_0 : ByteArray) (a2_1 : Int), good25 (⟨l0_0, l0_1⟩ : S25) → good27 (⟨a1_0, a1_1⟩ : S27) → good27 (⟨a2_0, a2_1⟩ : S27) → ∃ k, laws_FnExactDiffSnaps.f k l0_0 l0_1 a1_0 a1_1 a2_0 a2_1 = some true
theorem laws_FnExactDiffSnaps.walk (P : laws_FnExactDiffSnaps.Pure) (A0_0 : Option Addr) (c0_0 : Nat) (l0_0 : List (S75)) (A0_1 : Option Addr) (c0_1 : Nat) (l0_1 : List (S89)) (a1_0 : ByteArray) (a1_1 : Int) (a2_0 : ByteArray) (a2_1 : Int) (w : World) (w0 : good25 (⟨l0_0, l0_1⟩ : S25)) (w1 : good27 (⟨a1_0, a1_1⟩ : S27)) (w2 : good27 (⟨a2_0, a2_1⟩ : S27)) (hr0_0 : Kd.C k75 w A0_0 l0_0.length l0_0) (hc0_0 : l0_0.length ≤ c0_0) (hr0_1 : Kd.C k89 w A0_1 l0_1.length l0_1) (hc0_1 : l0_1.length ≤ c0_1) :
    Calls Tryz.prog 3 #[.agg #[.slice A0_0 l0_0.length c0_0, .slice A0_1 l0_1.length c0_1], .agg #[.string a1_0, .int .i64 a1_1], .agg #[.string a2_0, .int .i64 a2_1]] w fun e w' => e = .returned (.bool true) ∧ Below w.heap.size w w' := by
  obtain ⟨k, hk⟩ := P l0_0 l0_1 a1_0 a1_1 a2_0 a2_1 w0 w1 w2
  exact (laws_FnExactDiffSnaps.calls k A0_0 c0_0 l0_0 A0_1 c0_1 l0_1 a1_0 a1_1 a2_0 a2_1 w hr0_0 hc0_0 hr0_1 hc0_1 hk).mono fun e w' h => ⟨h.1, h.2⟩
end Go.Proofs.YtblejbgkcgajgaaGreat.Q
end

section
namespace Go.Proofs.YtblejbgkcgajgaaGreat.Q
open Go.RowKit Go.Proofs.YtblejbgkcgajgaaGreatW.PrintWords Go.Proofs.YtblejbgkcgajgaaGreatW.PrintLast Go.Proofs.YtblejbgkcgajgaaGreatW.PrintMore
attribute [local go_sem] max2_int min2_int max_two min_two max_three min_three max_four min_four   -- for this text's walks alone
set_option linter.unusedVariables false
set_option linter.unusedSimpArgs false
attribute [local go_sem] bin_leq bin_gtr bin_geq
theorem ev_map_loop {α β : Type} {L : Nat → List α → List β → Int → Option (List β)} {g : Nat → α → Option β} {cv : α → β} {z : α}
    (step : ∀ k xs acc i, L (k + 1) xs acc i = if i < (xs.length : Int) then (if 0 ≤ i then ((g k (xs.getD i.toNat z)).bind fun y => (if i < (acc.length : Int) then (L k xs (acc.set i.toNat y) (wrap64 (i + 1))) else none)) else none) else some acc)
    (xs : List α) (hlen : xs.length ≤ 4611686018427387904) (hg : ∀ x, x ∈ xs → Ev (fun k => g k x) (cv x)) (acc : List β) (ha : acc.length = xs.length) : Ev (fun k => L k xs acc 0) (xs.map cv) := by
  have key : ∀ d (i : Nat) (acc : List β), i + d = xs.length → acc.length = xs.length → Ev (fun k => L k xs acc (i : Int)) (acc.take i ++ (xs.drop i).map cv) := by
    intro d
    induction d with
    | zero =>
      intro i acc hi ha
      refine Ev.step (f := fun _ => some acc) (fun k => by rw [step, if_neg (by omega)]) ?_
      rw [List.take_of_length_le (by omega), List.drop_eq_nil_of_le (by omega)]
      simpa using Ev.now acc
    | succ d ih =>
      intro i acc hi ha
      have hl : i < xs.length := by omega
      have hw : wrap64 ((i : Int) + 1) = ((i + 1 : Nat) : Int) := by unfold wrap64; omega
      have hx : xs.getD ((i : Int).toNat) z = xs[i] := by simp [List.getD_eq_getElem?_getD, List.getElem?_eq_getElem hl]
      refine Ev.step (f := fun k => (g k xs[i]).bind fun y => L k xs (acc.set i y) ((i + 1 : Nat) : Int)) (fun k => ?_) ?_
      · rw [step, if_pos (by omega), if_pos (by omega), hx, hw]
        congr 1
        funext y
        rw [if_pos (by omega)]
        simp
      · have h2 := ih (i + 1) (acc.set i (cv xs[i])) (by omega) (by simpa using ha)
        have e : (acc.set i (cv xs[i])).take (i + 1) ++ (xs.drop (i + 1)).map cv = acc.take i ++ (xs.drop i).map cv := by
          rw [List.drop_eq_getElem_cons hl, List.map_cons, List.take_succ_eq_append_getElem (by simpa using (show i < acc.length by omega)), List.take_set_of_le (by omega)]
          simp
        rw [e] at h2
        exact Ev.bind (hg _ (List.getElem_mem hl)) h2
  have h := key xs.length 0 acc (by omega) ha
  simpa using h
theorem ev_refl_loop {α : Type} {L : Nat → List α → List α → Int → Option Bool} {g : Nat → α → α → Option Bool} {z : α}
    (step : ∀ k xs ys i, L (k + 1) xs ys i = if i < (xs.length : Int) then (if 0 ≤ i then (if i < (ys.length : Int) then ((g k (xs.getD i.toNat z) (ys.getD i.toNat z)).bind fun t => (if t = true then L k xs ys (wrap64 (i + 1)) else some false)) else none) else none) else some true)
    (xs : List α) (hlen : xs.length ≤ 4611686018427387904) (hg : ∀ x, x ∈ xs → Ev (fun k => g k x x) true) : Ev (fun k => L k xs xs 0) true := by
  have key : ∀ d (i : Nat), i + d = xs.length → Ev (fun k => L k xs xs (i : Int)) true := by
    intro d
    induction d with
    | zero =>
      intro i hi
      exact Ev.step (f := fun _ => some true) (fun k => by rw [step, if_neg (by omega)]) (Ev.now true)
    | succ d ih =>
      intro i hi
      have hl : i < xs.length := by omega
      have hw : wrap64 ((i : Int) + 1) = ((i + 1 : Nat) : Int) := by unfold wrap64; omega
      have hx : xs.getD ((i : Int).toNat) z = xs[i] := by simp [List.getD_eq_getElem?_getD, List.getElem?_eq_getElem hl]
      refine Ev.step (f := fun k => (g k xs[i] xs[i]).bind fun t => if t = true then L k xs xs ((i + 1 : Nat) : Int) else some false) (fun k => ?_) ?_
      · rw [step, if_pos (by omega), if_pos (by omega), if_pos (by omega), hx, hw]
      · refine Ev.bind (hg _ (List.getElem_mem hl)) ?_
        simp only [if_true]
        exact ih (i + 1) (by omega)
  exact key xs.length 0 (by omega)
theorem ev_sz_loop {α : Type} {L : Nat → List α → Int → Int → Option Int} {g : Nat → α → Int → Option Int} {z : α}
    (step : ∀ k xs left i, L (k + 1) xs left i = if i < (xs.length : Int) then (if 0 ≤ i then ((g k (xs.getD i.toNat z) left).bind fun t => (if t < 0 then some (-1) else L k xs t (wrap64 (i + 1)))) else none) else some left)
    (xs : List α) (hlen : xs.length ≤ 4611686018427387904) (hg : ∀ x, x ∈ xs → ∀ left : Int, 0 ≤ left → left ≤ 1048576 → ∃ r, Ev (fun k => g k x left) r ∧ r ≤ left) (left : Int) (h0 : 0 ≤ left) (h1 : left ≤ 1048576) :
    ∃ r, Ev (fun k => L k xs left 0) r ∧ r ≤ left := by
  have key : ∀ d (i : Nat) (left : Int), i + d = xs.length → 0 ≤ left → left ≤ 1048576 → ∃ r, Ev (fun k => L k xs left (i : Int)) r ∧ r ≤ left := by
    intro d
    induction d with
    | zero =>
      intro i left hi h0 h1
      exact ⟨left, Ev.step (f := fun _ => some left) (fun k => by rw [step, if_neg (by omega)]) (Ev.now left), by omega⟩
    | succ d ih =>
      intro i left hi h0 h1
      have hl : i < xs.length := by omega
      have hw : wrap64 ((i : Int) + 1) = ((i + 1 : Nat) : Int) := by unfold wrap64; omega
      have hx : xs.getD ((i : Int).toNat) z = xs[i] := by simp [List.getD_eq_getElem?_getD, List.getElem?_eq_getElem hl]
      obtain ⟨t, ht, htl⟩ := hg _ (List.getElem_mem hl) left h0 h1
      by_cases hn : t < 0
      · refine ⟨-1, Ev.step (f := fun k => (g k xs[i] left).bind fun t => if t < 0 then some (-1) else L k xs t ((i + 1 : Nat) : Int)) (fun k => ?_) (Ev.bind ht ?_), by omega⟩
        · rw [step, if_pos (by omega), if_pos (by omega), hx, hw]
        · simp only [hn, if_true]
          exact Ev.now _
      · obtain ⟨r, hr, hrl⟩ := ih (i + 1) t (by omega) (by omega) (by omega)
        refine ⟨r, Ev.step (f := fun k => (g k xs[i] left).bind fun t => if t < 0 then some (-1) else L k xs t ((i + 1 : Nat) : Int)) (fun k => ?_) (Ev.bind ht ?_), by omega⟩
        · rw [step, if_pos (by omega), if_pos (by omega), hx, hw]
        · simp only [hn, if_false]
          exact hr
  exact key xs.length 0 left (by omega) h0 h1
end Go.Proofs.YtblejbgkcgajgaaGreat.Q
end

section
namespace Go.Proofs.YtblejbgkcgajgaaGreat.Q
open Go.RowKit Go.Proofs.YtblejbgkcgajgaaGreatW.PrintWords Go.Proofs.YtblejbgkcgajgaaGreatW.PrintLast
set_option linter.unusedVariables false
def cvEntry (x : S127) : S84 := ⟨x.f0, x.f1⟩
theorem toEntryS_ev (l : List S127) (h : l.length ≤ 1048576) : Ev (fun k => laws_toEntryS.f k l) (l.map cvEntry) := by
  refine Ev.congr (f := fun k => laws_toEntryS.l0 k l (List.replicate l.length z84) 0) (fun k => ?_) ?_
  · unfold laws_toEntryS.f
    rw [if_pos (by omega), if_pos (by omega)]
    rfl
  · exact ev_map_loop (L := laws_toEntryS.l0) (g := fun _ x => some (cvEntry x)) (z := z127) (fun _ _ _ _ => rfl) l (by omega) (fun x _ => Ev.now _) _ (by simp)
theorem eqEntry_refl (x : S84) : laws_eqEntry.f x.f0 x.f1 x.f0 x.f1 = some true := by
  unfold laws_eqEntry.f
  simp
theorem eqEntryS_ev (l : List S84) (h : l.length ≤ 1048576) : Ev (fun k => laws_eqEntryS.f k l l) true := by
  refine Ev.congr (f := fun k => laws_eqEntryS.l0 k l l 0) (fun k => ?_) ?_
  · unfold laws_eqEntryS.f
    rw [if_pos rfl]
  · exact ev_refl_loop (L := laws_eqEntryS.l0) (g := fun _ x y => laws_eqEntry.f x.f0 x.f1 y.f0 y.f1) (z := z84) (fun _ _ _ _ => rfl) l (by omega) (fun x _ => Ev.congr (fun _ => eqEntry_refl x) (Ev.now _))
theorem szEntryS_ev (l : List S127) (hl : l.length ≤ 9223372036854775807) (hg : ∀ x, x ∈ l → good127 x) (left : Int) (h0 : 0 ≤ left) (h1 : left ≤ 1048576) :
    ∃ r, Ev (fun k => laws_szEntryS.f k l left) r ∧ r ≤ left ∧ (0 ≤ r → l.length ≤ 1048576) := by
  have hw : wrap64 (left - (l.length : Int)) = left - (l.length : Int) := by unfold wrap64; omega
  by_cases hn : left - (l.length : Int) < 0
  · refine ⟨-1, Ev.congr (f := fun _ => some (-1)) (fun k => ?_) (Ev.now _), by omega, by omega⟩
    unfold laws_szEntryS.f
    rw [hw, if_pos hn]
  · obtain ⟨r, hr, hrl⟩ := ev_sz_loop (L := laws_szEntryS.l0) (g := fun _ x left => laws_szEntry.f x.f0 x.f1 left) (z := z127) (fun _ _ _ _ => rfl) l (by omega) (fun x hx left h0 h1 => by
      have hsz : x.f0.size ≤ 9223372036854775807 := (hg x hx).1
      have hw2 : wrap64 (left - (x.f0.size : Int)) = left - (x.f0.size : Int) := by unfold wrap64; omega
      by_cases h2 : left - (x.f0.size : Int) < 0
      · refine ⟨-1, Ev.congr (f := fun _ => some (-1)) (fun k => ?_) (Ev.now _), by omega⟩
        unfold laws_szEntry.f
        rw [hw2, if_pos h2]
      · refine ⟨left - (x.f0.size : Int), Ev.congr (f := fun _ => some (left - (x.f0.size : Int))) (fun k => ?_) (Ev.now _), by omega⟩
        unfold laws_szEntry.f
        rw [hw2, if_neg h2]) (left - (l.length : Int)) (by omega) (by omega)
    refine ⟨r, Ev.congr (f := fun k => laws_szEntryS.l0 k l (left - (l.length : Int)) 0) (fun k => ?_) hr, by omega, by omega⟩
    unfold laws_szEntryS.f
    rw [hw, if_neg hn]
end Go.Proofs.YtblejbgkcgajgaaGreat.Q
end

section
namespace Go.Proofs.YtblejbgkcgajgaaGreat.Q
open Go.RowKit Go.Proofs.YtblejbgkcgajgaaGreatW.PrintWords Go.Proofs.YtblejbgkcgajgaaGreatW.PrintLast
set_option linter.unusedVariables false
theorem Ev.shift {α : Type} {g h : Nat → Option α} {r : α} {c d : Nat} (e : ∀ k, g (k + c) = h (k + d)) (k : Ev h r) : Ev g r := by
  obtain ⟨K, hK⟩ := k
  refine ⟨K + c, fun n hn => ?_⟩
  obtain ⟨m, rfl⟩ : ∃ m, n = m + c := ⟨n - c, by omega⟩
  rw [e]
  exact hK _ (by omega)
theorem Ev.at_ {α : Type} {g : Nat → Option α} {r : α} {c : Nat} (e : ∀ k, g (k + c) = some r) : Ev g r := by
  refine ⟨c, fun n hn => ?_⟩
  obtain ⟨m, rfl⟩ : ∃ m, n = m + c := ⟨n - c, by omega⟩
  exact e m
theorem Ev.succ {α : Type} {g : Nat → Option α} {r : α} (h : Ev (fun k => g (k + 1)) r) : Ev g r := Ev.step (fun _ => rfl) h
theorem ev_all_loop {L : Nat → Int → Option Bool} {n : Nat} {p : Nat → Bool} {fin : Bool}
    (step : ∀ i : Nat, i < n → (∀ j, j < i → p j = true) → p i = true → ∃ c d, ∀ k, L (k + c) (i : Int) = L (k + d) ((i + 1 : Nat) : Int))
    (stop : ∀ i : Nat, i < n → (∀ j, j < i → p j = true) → p i = false → ∃ c, ∀ k, L (k + c) (i : Int) = some false)
    (done : Ev (fun k => L k (n : Int)) fin) : Ev (fun k => L k 0) (allR p n && fin) := by
  have key : ∀ d (i : Nat), i + d = n → (∀ j, j < i → p j = true) → Ev (fun k => L k (i : Int)) (allR p n && fin) := by
    intro d
    induction d with
    | zero =>
      intro i hi hp
      obtain rfl : i = n := by omega
      rw [allR_true hp, Bool.true_and]
      exact done
    | succ d ih =>
      intro i hi hp
      cases h : p i with
      | true =>
        obtain ⟨c, d', e⟩ := step i (by omega) hp h
        refine Ev.shift e (ih (i + 1) (by omega) (fun j hj => ?_))
        rcases Nat.lt_or_eq_of_le (Nat.le_of_lt_succ hj) with h1 | h1
        · exact hp j h1
        · rw [h1]; exact h
      | false =>
        obtain ⟨c, e⟩ := stop i (by omega) hp h
        rw [allR_false (by omega) h, Bool.false_and]
        exact Ev.at_ e
  exact key n 0 (by omega) (fun j hj => absurd hj (Nat.not_lt_zero _))
theorem ev_all_loop2 {L : Nat → Int → Option Bool} {n : Nat} {p : Nat → Bool} {fin : Bool} (m : Nat)
    (step : ∀ i : Nat, m ≤ i → i < n → (∀ j, j < i → p j = true) → p i = true → ∀ r, Ev (fun k => L k ((i + 1 : Nat) : Int)) r → Ev (fun k => L k (i : Int)) r)
    (stop : ∀ i : Nat, m ≤ i → i < n → (∀ j, j < i → p j = true) → p i = false → Ev (fun k => L k (i : Int)) false)
    (done : Ev (fun k => L k (n : Int)) fin) (hm : m ≤ n) (hpm : ∀ j, j < m → p j = true) : Ev (fun k => L k (m : Int)) (allR p n && fin) := by
  have key : ∀ d (i : Nat), m ≤ i → i + d = n → (∀ j, j < i → p j = true) → Ev (fun k => L k (i : Int)) (allR p n && fin) := by
    intro d
    induction d with
    | zero =>
      intro i _ hi hp
      obtain rfl : i = n := by omega
      rw [allR_true hp, Bool.true_and]
      exact done
    | succ d ih =>
      intro i hmi hi hp
      cases h : p i with
      | true =>
        refine step i hmi (by omega) hp h _ (ih (i + 1) (by omega) (by omega) (fun j hj => ?_))
        rcases Nat.lt_or_eq_of_le (Nat.le_of_lt_succ hj) with h1 | h1
        · exact hp j h1
        · rw [h1]; exact h
      | false =>
        rw [allR_false (by omega) h, Bool.false_and]
        exact stop i hmi (by omega) hp h
  exact key (n - m) m (Nat.le_refl _) (by omega) hpm
theorem ev_idx_loop {α : Type} {L : Nat → Int → Option Int} {l : List α} {q : α → Bool}
    (step : ∀ (i : Nat) (hi : i < l.length), q l[i] = false → ∀ k, L (k + 1) (i : Int) = L k ((i + 1 : Nat) : Int))
    (stop : ∀ (i : Nat) (hi : i < l.length), q l[i] = true → ∀ k, L (k + 1) (i : Int) = some (i : Int))
    (done : ∀ k, L (k + 1) (l.length : Int) = some (-1)) : Ev (fun k => L k 0) (idxI q l) := by
  have key : ∀ d (i : Nat), i + d = l.length → (∀ j (hj : j < l.length), j < i → q l[j] = false) → Ev (fun k => L k (i : Int)) (idxI q l) := by
    intro d
    induction d with
    | zero =>
      intro i hi hp
      obtain rfl : i = l.length := by omega
      rw [idxI_none (fun j hj => hp j hj hj)]
      exact Ev.at_ (c := 1) done
    | succ d ih =>
      intro i hi hp
      cases h : q (l[i]'(by omega)) with
      | false =>
        refine Ev.step (step i (by omega) h) (ih (i + 1) (by omega) (fun j hj h2 => ?_))
        rcases Nat.lt_or_eq_of_le (Nat.le_of_lt_succ h2) with h1 | h1
        · exact hp j hj h1
        · subst h1; exact h
      | true =>
        rw [idxI_some (by omega) (fun j hj => hp j (by omega) hj) h]
        exact Ev.at_ (c := 1) (stop i (by omega) h)
  exact key l.length 0 (by omega) (fun j _ hj => absurd hj (Nat.not_lt_zero _))
theorem ev_same_loop {α : Type} {L : Nat → Int → Option Bool} {xs ys : List α} (hl : xs.length = ys.length)
    (step : ∀ (i : Nat) (h1 : i < xs.length) (h2 : i < ys.length), xs[i] = ys[i] → ∀ k, L (k + 1) (i : Int) = L k ((i + 1 : Nat) : Int))
    (stop : ∀ (i : Nat) (h1 : i < xs.length) (h2 : i < ys.length), xs[i] ≠ ys[i] → ∀ k, L (k + 1) (i : Int) = some false)
    (done : ∀ k, L (k + 1) (xs.length : Int) = some true) : ∃ b, Ev (fun k => L k 0) b ∧ (b = true ↔ xs = ys) := by
  have key : ∀ d (i : Nat), i + d = xs.length → xs.take i = ys.take i → ∃ b, Ev (fun k => L k (i : Int)) b ∧ (b = true ↔ xs = ys) := by
    intro d
    induction d with
    | zero =>
      intro i hi hp
      obtain rfl : i = xs.length := by omega
      refine ⟨true, Ev.at_ (c := 1) done, fun _ => ?_, fun _ => rfl⟩
      rw [List.take_length, hl, List.take_length] at hp
      exact hp
    | succ d ih =>
      intro i hi hp
      have h1 : i < xs.length := by omega
      have h2 : i < ys.length := by omega
      rcases Classical.em (xs[i] = ys[i]) with h | h
      · obtain ⟨b, hb, hb2⟩ := ih (i + 1) (by omega) (by rw [List.take_succ_eq_append_getElem h1, List.take_succ_eq_append_getElem h2, hp, h])
        exact ⟨b, Ev.step (step i h1 h2 h) hb, hb2⟩
      · refine ⟨false, Ev.at_ (c := 1) (stop i h1 h2 h), by simp, fun e => absurd (by subst e; rfl) h⟩
  exact key xs.length 0 (by omega) (by simp)
theorem all_allR {α : Type} (q : α → Bool) (z : α) (l : List α) : l.all q = allR (fun j => q (l.getD j z)) l.length := by
  rw [Bool.eq_iff_iff, List.all_eq_true, allR_iff]
  constructor
  · intro h j hj
    rw [List.getD_eq_getElem?_getD, List.getElem?_eq_getElem hj]
    exact h _ (List.getElem_mem hj)
  · intro h x hx
    obtain ⟨j, hj, rfl⟩ := List.mem_iff_getElem.mp hx
    have := h j hj
    rwa [List.getD_eq_getElem?_getD, List.getElem?_eq_getElem hj] at this
theorem allR_and (p q : Nat → Bool) (n : Nat) : allR (fun j => p j && q j) n = (allR p n && allR q n) := by
  rw [Bool.eq_iff_iff, Bool.and_eq_true, allR_iff, allR_iff, allR_iff]
  simp only [Bool.and_eq_true]
  exact ⟨fun h => ⟨fun j hj => (h j hj).1, fun j hj => (h j hj).2⟩, fun h j hj => ⟨h.1 j hj, h.2 j hj⟩⟩
theorem wrap_i {i : Nat} (h : i < 4611686018427387904) : wrap64 ((i : Int) + 1) = ((i + 1 : Nat) : Int) := by unfold wrap64; omega
theorem wrap_2 {i : Int} (h0 : -4611686018427387904 ≤ i) (h : i < 4611686018427387904) : wrap64 (i + 1) = i + 1 := by unfold wrap64; omega
end Go.Proofs.YtblejbgkcgajgaaGreat.Q
end

section
namespace Go.Proofs.YtblejbgkcgajgaaGreat.Q
open Go.RowKit Go.Proofs.YtblejbgkcgajgaaGreatW.PrintWords Go.Proofs.YtblejbgkcgajgaaGreatW.PrintLast
set_option linter.unusedVariables false
set_option linter.unusedSimpArgs false
theorem toIntS_ev (l : List Int) (h : l.length ≤ 1048576) : Ev (fun k => laws_toIntS.f k l) l := by
  refine Ev.congr (f := fun k => laws_toIntS.l0 k l (List.replicate l.length 0) 0) (fun k => ?_) ?_
  · unfold laws_toIntS.f
    rw [if_pos (by omega), if_pos (by omega)]
    rfl
  · have h2 := ev_map_loop (L := laws_toIntS.l0) (g := fun _ x => some x) (cv := fun x => x) (z := (0 : Int)) (fun _ _ _ _ => rfl) l (by omega) (fun x _ => Ev.now _) (List.replicate l.length 0) (by simp)
    simpa using h2
theorem eqIntS_ev (l : List Int) (hl : l.length ≤ 1048576) : Ev (fun k => laws_eqIntS.f k l l) true := by
  obtain ⟨b, hb, h⟩ := ev_same_loop (L := fun k i => laws_eqIntS.l0 k l l i) (xs := l) (ys := l) rfl (fun i h1 h2 e k => by
    have c1 : (i : Int) < (l.length : Int) := by omega
    simp only [laws_eqIntS.l0, c1, Int.natCast_nonneg, if_true, wrap_i (show i < 4611686018427387904 by omega)]) (fun i h1 h2 e k => absurd rfl e) (fun k => by
    simp only [laws_eqIntS.l0]
    rw [if_neg (by omega)])
  obtain rfl : b = true := h.mpr rfl
  exact Ev.congr (f := fun k => laws_eqIntS.l0 k l l 0) (fun k => by unfold laws_eqIntS.f; rw [if_pos rfl]) hb
theorem szIntS_ev (l : List Int) (hl : l.length ≤ 9223372036854775807) (left : Int) (h0 : 0 ≤ left) (h1 : left ≤ 1048576) :
    ∃ r, laws_szIntS.f l left = some r ∧ r ≤ left ∧ (0 ≤ r → l.length ≤ 1048576) := by
  have hw : wrap64 (left - (l.length : Int)) = left - (l.length : Int) := by unfold wrap64; omega
  unfold laws_szIntS.f
  rw [hw]
  by_cases hn : left - (l.length : Int) < 0
  · exact ⟨-1, by rw [if_pos hn], by omega, by omega⟩
  · exact ⟨left - (l.length : Int), by rw [if_neg hn], by omega, by omega⟩
def cvCommit (x : S75) : S64 := ⟨x.f0, x.f1.map cvEntry⟩
def fitC (x : S75) : Prop := x.f0.length ≤ 1048576 ∧ x.f1.length ≤ 1048576
theorem szCommit_ev (x : S75) (g : good75 x) (left : Int) (h0 : 0 ≤ left) (h1 : left ≤ 1048576) : ∃ r, Ev (fun k => laws_szCommit.f k x.f0 x.f1 left) r ∧ r ≤ left ∧ (0 ≤ r → fitC x) := by
  unfold laws_szCommit.f
  obtain ⟨r, hr, hrl, hrs⟩ := szIntS_ev x.f0 g.1.1 left h0 h1
  simp only [hr, Option.bind_some]
  by_cases hn : r < 0
  · exact ⟨-1, by simp only [hn, if_true]; exact Ev.now _, by omega, by omega⟩
  · obtain ⟨r', hr', hrl', hrs'⟩ := szEntryS_ev x.f1 g.2.1 g.2.2 r (by omega) (by omega)
    by_cases hn' : r' < 0
    · exact ⟨-1, by simp only [hn, if_false]; refine Ev.bind hr' ?_; simp only [hn', if_true]; exact Ev.now _, by omega, by omega⟩
    · exact ⟨r', by simp only [hn, if_false]; refine Ev.bind hr' ?_; simp only [hn', if_false]; exact Ev.now _, by omega, fun h => ⟨hrs (by omega), hrs' h⟩⟩
theorem ev_sz_loop2 {α : Type} {L : Nat → List α → Int → Int → Option Int} {g : Nat → α → Int → Option Int} {z : α} {P : α → Prop}
    (step : ∀ k xs left i, L (k + 1) xs left i = if i < (xs.length : Int) then (if 0 ≤ i then ((g k (xs.getD i.toNat z) left).bind fun t => (if t < 0 then some (-1) else L k xs t (wrap64 (i + 1)))) else none) else some left)
    (xs : List α) (hlen : xs.length ≤ 4611686018427387904) (hg : ∀ x, x ∈ xs → ∀ left : Int, 0 ≤ left → left ≤ 1048576 → ∃ r, Ev (fun k => g k x left) r ∧ r ≤ left ∧ (0 ≤ r → P x)) (left : Int) (h0 : 0 ≤ left) (h1 : left ≤ 1048576) :
    ∃ r, Ev (fun k => L k xs left 0) r ∧ r ≤ left ∧ (0 ≤ r → ∀ x, x ∈ xs → P x) := by
  have key : ∀ d (i : Nat) (left : Int), i + d = xs.length → 0 ≤ left → left ≤ 1048576 → ∃ r, Ev (fun k => L k xs left (i : Int)) r ∧ r ≤ left ∧ (0 ≤ r → ∀ x, x ∈ xs.drop i → P x) := by
    intro d
    induction d with
    | zero =>
      intro i left hi h0 h1
      refine ⟨left, Ev.step (f := fun _ => some left) (fun k => by rw [step, if_neg (by omega)]) (Ev.now left), by omega, fun _ x hx => ?_⟩
      rw [List.drop_eq_nil_of_le (by omega)] at hx
      cases hx
    | succ d ih =>
      intro i left hi h0 h1
      have hl : i < xs.length := by omega
      have hw : wrap64 ((i : Int) + 1) = ((i + 1 : Nat) : Int) := by unfold wrap64; omega
      have hx : xs.getD ((i : Int).toNat) z = xs[i] := by simp [List.getD_eq_getElem?_getD, List.getElem?_eq_getElem hl]
      obtain ⟨t, ht, htl, hP⟩ := hg _ (List.getElem_mem hl) left h0 h1
      have hstep : ∀ k, L (k + 1) xs left (i : Int) = (g k xs[i] left).bind fun t => if t < 0 then some (-1) else L k xs t ((i + 1 : Nat) : Int) := fun k => by rw [step, if_pos (by omega), if_pos (by omega), hx, hw]
      by_cases hn : t < 0
      · refine ⟨-1, Ev.step hstep (Ev.bind ht ?_), by omega, by omega⟩
        simp only [hn, if_true]
        exact Ev.now _
      · obtain ⟨r, hr, hrl, hrP⟩ := ih (i + 1) t (by omega) (by omega) (by omega)
        refine ⟨r, Ev.step hstep (Ev.bind ht ?_), by omega, fun h x hx => ?_⟩
        · simp only [hn, if_false]
          exact hr
        · rw [List.drop_eq_getElem_cons hl] at hx
          rcases List.mem_cons.mp hx with rfl | hx
          · exact hP (by omega)
          · exact hrP h x hx
  have h := key xs.length 0 left (by omega) h0 h1
  simpa using h
theorem szCommitS_ev (l : List S75) (hl : l.length ≤ 9223372036854775807) (hg : ∀ x, x ∈ l → good75 x) (left : Int) (h0 : 0 ≤ left) (h1 : left ≤ 1048576) :
    ∃ r, Ev (fun k => laws_szCommitS.f k l left) r ∧ r ≤ left ∧ (0 ≤ r → l.length ≤ 1048576 ∧ ∀ x, x ∈ l → fitC x) := by
  have hw : wrap64 (left - (l.length : Int)) = left - (l.length : Int) := by unfold wrap64; omega
  by_cases hn : left - (l.length : Int) < 0
  · refine ⟨-1, Ev.congr (f := fun _ => some (-1)) (fun k => ?_) (Ev.now _), by omega, by omega⟩
    unfold laws_szCommitS.f
    rw [hw, if_pos hn]
  · obtain ⟨r, hr, hrl, hrP⟩ := ev_sz_loop2 (L := laws_szCommitS.l0) (g := fun k x left => laws_szCommit.f k x.f0 x.f1 left) (z := z75) (P := fitC) (fun _ _ _ _ => rfl) l (by omega) (fun x hx left h0 h1 => szCommit_ev x (hg x hx) left h0 h1) (left - (l.length : Int)) (by omega) (by omega)
    refine ⟨r, Ev.congr (f := fun k => laws_szCommitS.l0 k l (left - (l.length : Int)) 0) (fun k => ?_) hr, by omega, fun h => ⟨by omega, hrP h⟩⟩
    unfold laws_szCommitS.f
    rw [hw, if_neg hn]
theorem toCommit_ev (x : S75) (h : fitC x) : Ev (fun k => laws_toCommit.f k x.f0 x.f1) (x.f0, x.f1.map cvEntry) := by
  unfold laws_toCommit.f
  exact Ev.bind (toIntS_ev _ h.1) (Ev.bind (toEntryS_ev _ h.2) (Ev.now _))
theorem toCommitS_ev (l : List S75) (h : l.length ≤ 1048576) (hf : ∀ x, x ∈ l → fitC x) : Ev (fun k => laws_toCommitS.f k l) (l.map cvCommit) := by
  refine Ev.congr (f := fun k => laws_toCommitS.l0 k l (List.replicate l.length z64) 0) (fun k => ?_) ?_
  · unfold laws_toCommitS.f
    rw [if_pos (by omega), if_pos (by omega)]
    rfl
  · exact ev_map_loop (L := laws_toCommitS.l0) (g := fun k x => (laws_toCommit.f k x.f0 x.f1).bind fun bt => some (⟨bt.1, bt.2⟩ : S64)) (cv := cvCommit) (z := z75) (fun k xs acc i => by
      simp only [laws_toCommitS.l0, Option.bind_assoc, Option.bind_some]
      rfl) l (by omega) (fun x hx => Ev.bind (toCommit_ev x (hf x hx)) (Ev.now _)) _ (by simp)
theorem eqCommitS_ev (l : List S64) (h : l.length ≤ 1048576) (hf : ∀ x, x ∈ l → x.f0.length ≤ 1048576 ∧ x.f1.length ≤ 1048576) : Ev (fun k => laws_eqCommitS.f k l l) true := by
  refine Ev.congr (f := fun k => laws_eqCommitS.l0 k l l 0) (fun k => ?_) ?_
  · unfold laws_eqCommitS.f
    rw [if_pos rfl]
  · exact ev_refl_loop (L := laws_eqCommitS.l0) (g := fun k x y => laws_eqCommit.f k x.f0 x.f1 y.f0 y.f1) (z := z64) (fun _ _ _ _ => rfl) l (by omega) (fun x hx => by
      unfold laws_eqCommit.f
      refine Ev.bind (eqIntS_ev _ (hf x hx).1) ?_
      simp only [if_true]
      refine Ev.bind (eqEntryS_ev _ (hf x hx).2) ?_
      simp only [if_true]
      exact Ev.now _)
theorem fit_cv {l : List S75} (hf : ∀ x, x ∈ l → fitC x) : ∀ x, x ∈ l.map cvCommit → x.f0.length ≤ 1048576 ∧ x.f1.length ≤ 1048576 := by
  intro x hx
  obtain ⟨y, hy, rfl⟩ := List.mem_map.mp hx
  exact ⟨(hf y hy).1, by simpa [cvCommit] using (hf y hy).2⟩
end Go.Proofs.YtblejbgkcgajgaaGreat.Q
end

section
namespace Go.Proofs.YtblejbgkcgajgaaGreat.Q
open Go.RowKit Go.Proofs.YtblejbgkcgajgaaGreatW.PrintWords Go.Proofs.YtblejbgkcgajgaaGreatW.PrintLast
set_option linter.unusedVariables false
def cvRef (x : S89) : S92 := ⟨x.f0, x.f1, x.f2, x.f3⟩
theorem toRefS_ev (l : List S89) (h : l.length ≤ 1048576) : Ev (fun k => laws_toRefS.f k l) (l.map cvRef) := by
  refine Ev.congr (f := fun k => laws_toRefS.l0 k l (List.replicate l.length z92) 0) (fun k => ?_) ?_
  · unfold laws_toRefS.f
    rw [if_pos (by omega), if_pos (by omega)]
    rfl
  · exact ev_map_loop (L := laws_toRefS.l0) (g := fun _ x => some (cvRef x)) (z := z89) (fun _ _ _ _ => rfl) l (by omega) (fun x _ => Ev.now _) _ (by simp)
theorem eqRef_refl (x : S92) : laws_eqRef.f x.f0 x.f1 x.f2 x.f3 x.f0 x.f1 x.f2 x.f3 = some true := by
  unfold laws_eqRef.f
  simp
theorem eqRefS_ev (l : List S92) (h : l.length ≤ 1048576) : Ev (fun k => laws_eqRefS.f k l l) true := by
  refine Ev.congr (f := fun k => laws_eqRefS.l0 k l l 0) (fun k => ?_) ?_
  · unfold laws_eqRefS.f
    rw [if_pos rfl]
  · exact ev_refl_loop (L := laws_eqRefS.l0) (g := fun _ x y => laws_eqRef.f x.f0 x.f1 x.f2 x.f3 y.f0 y.f1 y.f2 y.f3) (z := z92) (fun _ _ _ _ => rfl) l (by omega) (fun x _ => Ev.congr (fun _ => eqRef_refl x) (Ev.now _))
theorem szRefS_ev (l : List S89) (hl : l.length ≤ 9223372036854775807) (hg : ∀ x, x ∈ l → good89 x) (left : Int) (h0 : 0 ≤ left) (h1 : left ≤ 1048576) :
    ∃ r, Ev (fun k => laws_szRefS.f k l left) r ∧ r ≤ left ∧ (0 ≤ r → l.length ≤ 1048576) := by
  have hw : wrap64 (left - (l.length : Int)) = left - (l.length : Int) := by unfold wrap64; omega
  by_cases hn : left - (l.length : Int) < 0
  · refine ⟨-1, Ev.congr (f := fun _ => some (-1)) (fun k => ?_) (Ev.now _), by omega, by omega⟩
    unfold laws_szRefS.f
    rw [hw, if_pos hn]
  · obtain ⟨r, hr, hrl⟩ := ev_sz_loop (L := laws_szRefS.l0) (g := fun _ x left => laws_szRef.f x.f0 x.f1 x.f2 x.f3 left) (z := z89) (fun _ _ _ _ => rfl) l (by omega) (fun x hx left h0 h1 => by
      have hsz : x.f0.size ≤ 9223372036854775807 := (hg x hx).1
      have hw2 : wrap64 (left - (x.f0.size : Int)) = left - (x.f0.size : Int) := by unfold wrap64; omega
      by_cases h2 : left - (x.f0.size : Int) < 0
      · refine ⟨-1, Ev.congr (f := fun _ => some (-1)) (fun k => ?_) (Ev.now _), by omega⟩
        unfold laws_szRef.f
        rw [hw2, if_pos h2]
      · refine ⟨left - (x.f0.size : Int), Ev.congr (f := fun _ => some (left - (x.f0.size : Int))) (fun k => ?_) (Ev.now _), by omega⟩
        unfold laws_szRef.f
        rw [hw2, if_neg h2]) (left - (l.length : Int)) (by omega) (by omega)
    refine ⟨r, Ev.congr (f := fun k => laws_szRefS.l0 k l (left - (l.length : Int)) 0) (fun k => ?_) hr, by omega, by omega⟩
    unfold laws_szRefS.f
    rw [hw, if_neg hn]
end Go.Proofs.YtblejbgkcgajgaaGreat.Q
end

section
namespace Go.Proofs.YtblejbgkcgajgaaGreat.Q
open Go.RowKit Go.Proofs.YtblejbgkcgajgaaGreatW.PrintWords Go.Proofs.YtblejbgkcgajgaaGreatW.PrintLast
theorem isValue_f (n : Int) : impl_isValue.f n = some (inB n (-1000000) 1000000) := by
  unfold impl_isValue.f impl_within.f inB
  by_cases h : (-1000000 : Int) ≤ n <;> simp [h]
theorem mapOK_l0 (l : List S84) (hlen : l.length ≤ 4611686018427387904) (d : Nat) : ∀ i : Nat, i + d = l.length → (∀ j, j < i → entAt l j = true) → Ev (fun k => impl_MapOK.l0 k l l (l.length : Int) (i : Int)) (mapB l) := by
  induction d with
  | zero =>
    intro i hi hp
    have e : mapB l = decide ((l.length : Int) ≤ 12) := by
      unfold mapB
      rw [allR_true (fun j hj => hp j (by omega)), Bool.and_true]
      by_cases h : l.length ≤ 12
      · rw [decide_eq_true h, decide_eq_true (by omega)]
      · rw [decide_eq_false h, decide_eq_false (by omega)]
    rw [e]
    exact Ev.step (f := fun _ => some (decide ((l.length : Int) ≤ 12))) (fun k => by simp only [impl_MapOK.l0]; rw [if_neg (by omega)]) (Ev.now _)
  | succ d ih =>
    intro i hi hp
    have hw : wrap64 ((i : Int) + 1) = ((i + 1 : Nat) : Int) := by unfold wrap64; omega
    have hbad : entAt l i = false → mapB l = false := fun h => by
      unfold mapB
      rw [allR_false (j := i) (by omega) h, Bool.and_false]
    have hgo : entAt l i = true → Ev (fun k => impl_MapOK.l0 k l l (l.length : Int) ((i + 1 : Nat) : Int)) (mapB l) := fun h => ih (i + 1) (by omega) (fun j hj => by
      by_cases e : j = i
      · rw [e]; exact h
      · exact hp j (by omega))
    have E : entAt l i = (nameB (rd_T84 l (i : Int)).f0 && inB (rd_T84 l (i : Int)).f1 (-1000000) 1000000 && (i == 0 || sblt (rd_T84 l ((i : Int) - 1)).f0 (rd_T84 l (i : Int)).f0)) := rfl
    have c1 : (i : Int) < (l.length : Int) := by omega
    have c2 : (0 : Int) ≤ (i : Int) := by omega
    cases hN : nameB (rd_T84 l (i : Int)).f0 with
    | false =>
      rw [hbad (by rw [E, hN]; rfl)]
      refine Ev.step (f := fun _ => some false) (fun k => ?_) (Ev.now _)
      simp only [impl_MapOK.l0, impl_NameOK.f, hN, if_pos c1, if_pos c2, Option.bind_some, Bool.false_eq_true, if_false]
    | true =>
      cases hV : inB (rd_T84 l (i : Int)).f1 (-1000000) 1000000 with
      | false =>
        rw [hbad (by rw [E, hN, hV]; rfl)]
        refine Ev.step (f := fun _ => some false) (fun k => ?_) (Ev.now _)
        simp only [impl_MapOK.l0, impl_NameOK.f, isValue_f, hN, hV, if_pos c1, if_pos c2, Option.bind_some, Bool.false_eq_true, if_false, if_true]
      | true =>
        by_cases hz : i = 0
        · have hg := hgo (by rw [E, hN, hV]; simp [hz])
          refine Ev.step (fun k => ?_) hg
          have c3 : ¬ ((i : Int) > 0) := by omega
          simp only [impl_MapOK.l0, impl_NameOK.f, isValue_f, hN, hV, if_pos c1, if_pos c2, if_neg c3, Option.bind_some, if_true, hw]
        · have c3 : (i : Int) > 0 := by omega
          have hw2 : wrap64 ((i : Int) - 1) = (i : Int) - 1 := by unfold wrap64; omega
          have c4 : (0 : Int) ≤ (i : Int) - 1 := by omega
          have c5 : (i : Int) - 1 < (l.length : Int) := by omega
          have z : (i == 0) = false := by simp [hz]
          cases hS : sblt (rd_T84 l ((i : Int) - 1)).f0 (rd_T84 l (i : Int)).f0 with
          | false =>
            rw [hbad (by rw [E, hN, hV, hS, z]; rfl)]
            have hS1 : Op.bytesLess (rd_T84 l ((i : Int) - 1)).f0.toList (rd_T84 l (i : Int)).f0.toList = false := hS
            refine Ev.step (f := fun _ => some false) (fun k => ?_) (Ev.now _)
            simp only [impl_MapOK.l0, impl_NameOK.f, isValue_f, hN, hV, hS1, hw2, if_pos c1, if_pos c2, if_pos c3, if_pos c4, if_pos c5, Option.bind_some, if_true, Bool.false_eq_true, if_false]
          | true =>
            have hg := hgo (by rw [E, hN, hV, hS]; simp)
            have hS1 : Op.bytesLess (rd_T84 l ((i : Int) - 1)).f0.toList (rd_T84 l (i : Int)).f0.toList = true := hS
            refine Ev.step (fun k => ?_) hg
            simp only [impl_MapOK.l0, impl_NameOK.f, isValue_f, hN, hV, hS1, hw2, if_pos c1, if_pos c2, if_pos c3, if_pos c4, if_pos c5, Option.bind_some, if_true, hw]
theorem mapOK_ev (l : List S84) (hlen : l.length ≤ 4611686018427387904) : Ev (fun k => impl_MapOK.f k l) (mapB l) := mapOK_l0 l hlen l.length 0 (by omega) (fun j hj => absurd hj (Nat.not_lt_zero _))
end Go.Proofs.YtblejbgkcgajgaaGreat.Q
end

section
namespace Go.Proofs.YtblejbgkcgajgaaGreat.Q
open Go.RowKit Go.Proofs.YtblejbgkcgajgaaGreatW.PrintWords Go.Proofs.YtblejbgkcgajgaaGreatW.PrintLast
theorem l00Word_ev (s : ByteArray) : Ev (fun k => spec_l00Word.f k s) (nameB s) := Ev.of (fun k => spec_l00Word.mono s k) (l00Word_f s)
theorem l01In_is (a b c : Int) : spec_l01In.f a b c = some (inB a b c) := by
  unfold spec_l01In.f inB
  by_cases h : b ≤ a <;> simp [h]
end Go.Proofs.YtblejbgkcgajgaaGreat.Q
end

section
namespace Go.Proofs.YtblejbgkcgajgaaGreat.Q
open Go.RowKit Go.Proofs.YtblejbgkcgajgaaGreatW.PrintWords Go.Proofs.YtblejbgkcgajgaaGreatW.PrintLast
set_option linter.unusedVariables false
set_option linter.unusedSimpArgs false
theorem rdCommit {l : List S64} {i : Nat} (h : i < l.length) : rd_T64 l (i : Int) = l[i] := by
  simp [rd_T64, List.getD_eq_getElem?_getD, List.getElem?_eq_getElem h]
def commitB (n : Nat) (ps : List Int) (m : List S84) : Bool :=
  mapB m && match ps with
  | [] => n == 0
  | [a] => n != 0 && inB a 1 n
  | [a, b] => n != 0 && (inB a 1 n && (inB b 1 n && b != a))
  | _ => false
def storeB (l : List S64) : Bool := inB l.length 1 60 && allR (fun i => commitB i (rd_T64 l (i : Int)).f0 (rd_T64 l (i : Int)).f1) l.length
theorem nat_eq0 (n : Nat) : ((n : Int) == 0) = (n == 0) := by
  cases n with
  | zero => rfl
  | succ n =>
    have h1 : (((n + 1 : Nat) : Int) == 0) = false := by rw [beq_eq_false_iff_ne]; omega
    rw [h1]; rfl
theorem l03Commit_ev (st : List S64) (ps : List Int) (m : List S84) : Ev (fun k => spec_l03Commit.f k st ps m) (commitB st.length ps m) := by
  unfold commitB
  have w0 : wrap64 (0 + 1) = 1 := by unfold wrap64; omega
  have w1 : wrap64 (1 + 1) = 2 := by unfold wrap64; omega
  cases hm : mapB m with
  | false =>
    refine Ev.at_ (c := 1) (fun k => ?_)
    simp only [spec_l03Commit.f, spec_l01OK.f, Option.bind_some, hm, Bool.false_eq_true, if_false, spec_l03Commit.j0, if_true, Bool.false_and]
  | true =>
    match ps with
    | [] =>
      refine Ev.at_ (c := 2) (fun k => ?_)
      simp only [spec_l03Commit.f, spec_l01OK.f, Option.bind_some, hm, if_true, nat_eq0, List.length_nil, spec_l03Commit.j0, spec_l03Commit.l0]
      cases st.length == 0 <;> simp
    | [a] =>
      refine Ev.at_ (c := 4) (fun k => ?_)
      have r0 : rd [a] 0 = a := rfl
      simp only [spec_l03Commit.f, spec_l01OK.f, Option.bind_some, hm, if_true, nat_eq0, List.length_cons, List.length_nil, spec_l03Commit.j0, spec_l03Commit.l0, l01In_is, r0, w0, bne]
      cases st.length == 0 <;> cases inB a 1 st.length <;> simp
    | [a, b] =>
      refine Ev.at_ (c := 5) (fun k => ?_)
      have r0 : rd [a, b] 0 = a := rfl
      have r1 : rd [a, b] 1 = b := rfl
      simp only [spec_l03Commit.f, spec_l01OK.f, Option.bind_some, hm, if_true, nat_eq0, List.length_cons, List.length_nil, spec_l03Commit.j0, spec_l03Commit.l0, l01In_is, r0, r1, w0, w1, bne]
      by_cases hab : b = a
      · cases st.length == 0 <;> cases inB a 1 st.length <;> cases inB b 1 st.length <;> simp [hab]
      · cases st.length == 0 <;> cases inB a 1 st.length <;> cases inB b 1 st.length <;> simp [hab]
    | a :: b :: c :: r =>
      refine Ev.at_ (c := 1) (fun k => ?_)
      have h3 : (((a :: b :: c :: r).length : Nat) : Int) > 2 := by simp only [List.length_cons]; omega
      simp only [spec_l03Commit.f, spec_l01OK.f, Option.bind_some, hm, if_true, h3, spec_l03Commit.j0, Bool.and_false]
theorem isAt_ev (n : Nat) (hn : n ≤ 1048576) (ps : List Int) (m : List S84) (hm : m.length ≤ 1048576) : Ev (fun k => impl_Commit_isAt.f k ps m ((n : Int) + 1)) (commitB n ps m) := by
  unfold impl_Commit_isAt.f commitB
  refine Ev.bind (mapOK_ev m (by omega)) ?_
  have e1 : ((n : Int) + 1 == 1) = (n == 0) := by
    cases n with
    | zero => rfl
    | succ n =>
      have h1 : (((n + 1 : Nat) : Int) + 1 == 1) = false := by rw [beq_eq_false_iff_ne]; omega
      rw [h1]; rfl
  have l1 : (-9223372036854775807 : Int) ≤ (n : Int) + 1 := by omega
  have l2 : (n : Int) + 1 ≤ 9223372036854775807 := by omega
  have l3 : (n : Int) + 1 - 1 = (n : Int) := by omega
  cases mapB m with
  | false => simp only [Bool.false_eq_true, if_false, Bool.false_and]; exact Ev.now _
  | true =>
    simp only [if_true, Bool.true_and, areAllint_isAt.f, l1, l2, l3, e1]
    match ps with
    | [] =>
      refine Ev.at_ (c := 0) (fun k => ?_)
      cases hz : n == 0 <;> simp [hz]
    | [a] =>
      refine Ev.at_ (c := 0) (fun k => ?_)
      cases hz : n == 0 <;> cases h1 : inB a 1 n <;> simp [hz, h1, bne]
    | [a, b] =>
      refine Ev.at_ (c := 0) (fun k => ?_)
      have r0 : rd [a, b] 0 = a := rfl
      have r1 : rd [a, b] 1 = b := rfl
      by_cases hab : a = b
      · subst hab
        cases hz : n == 0 <;> simp [hz, r0, r1, bne]
      · have hba : ¬ b = a := fun h => hab h.symm
        cases hz : n == 0 <;> cases h1 : inB a 1 n <;> cases h2 : inB b 1 n <;> simp [hz, r0, r1, hab, hba, h1, h2, bne]
    | a :: b :: c :: r =>
      have h3 : (((a :: b :: c :: r).length : Nat) : Int) > 2 := by simp only [List.length_cons]; omega
      simp only [h3, if_true]
      exact Ev.now _
theorem l03OK_ev (l : List S64) : Ev (fun k => spec_l03OK.f k l) (storeB l) := by
  unfold spec_l03OK.f storeB
  simp only [l01In_is, Option.bind_some]
  cases hn : inB l.length 1 60 with
  | false => simp only [Bool.false_eq_true, if_false, Bool.false_and]; exact Ev.now _
  | true =>
    have h60 : l.length ≤ 60 := by
      unfold inB at hn
      simp only [Bool.and_eq_true, decide_eq_true_eq] at hn
      omega
    simp only [if_true, Bool.true_and]
    have h := ev_all_loop2 (L := fun k i => spec_l03OK.l0 k l i) (n := l.length) (p := fun i => commitB i (rd_T64 l (i : Int)).f0 (rd_T64 l (i : Int)).f1) (fin := true) 0 (fun i _ hi _ hp r hr => by
      have c1 : (i : Int) < (l.length : Int) := by omega
      have c2 : (i : Int) ≤ (l.length : Int) := by omega
      have hc := l03Commit_ev (l.take i) (rd_T64 l (i : Int)).f0 (rd_T64 l (i : Int)).f1
      rw [List.length_take, Nat.min_eq_left (by omega), hp] at hc
      refine Ev.succ (g := fun k => spec_l03OK.l0 k l (i : Int)) ?_
      simp only [spec_l03OK.l0, c1, c2, Int.natCast_nonneg, if_true, Int.toNat_natCast, wrap_i (show i < 4611686018427387904 by omega)]
      refine Ev.bind hc ?_
      simp only [if_true]
      exact hr) (fun i _ hi _ hp => by
      have c1 : (i : Int) < (l.length : Int) := by omega
      have c2 : (i : Int) ≤ (l.length : Int) := by omega
      have hc := l03Commit_ev (l.take i) (rd_T64 l (i : Int)).f0 (rd_T64 l (i : Int)).f1
      rw [List.length_take, Nat.min_eq_left (by omega), hp] at hc
      refine Ev.succ (g := fun k => spec_l03OK.l0 k l (i : Int)) ?_
      simp only [spec_l03OK.l0, c1, c2, Int.natCast_nonneg, if_true, Int.toNat_natCast]
      refine Ev.bind hc ?_
      simp only [Bool.false_eq_true, if_false]
      exact Ev.now _) (Ev.at_ (c := 1) (fun k => by
      simp only [spec_l03OK.l0]
      rw [if_neg (by omega)])) (Nat.zero_le _) (fun j hj => absurd hj (Nat.not_lt_zero _))
    rw [Bool.and_true] at h
    exact h
theorem areCommits_ev (l : List S64) (hl : l.length ≤ 1048576) (hf : ∀ x, x ∈ l → x.f1.length ≤ 1048576) : Ev (fun k => impl_areCommits.f k l) (allR (fun i => commitB i (rd_T64 l (i : Int)).f0 (rd_T64 l (i : Int)).f1) l.length && decide ((l.length : Int) ≤ 60)) := by
  exact ev_all_loop2 (L := fun k i => impl_areCommits.l0 k l l (l.length : Int) i) (n := l.length) (p := fun i => commitB i (rd_T64 l (i : Int)).f0 (rd_T64 l (i : Int)).f1) 0 (fun i _ hi _ hp r hr => by
    have c1 : (i : Int) < (l.length : Int) := by omega
    have w := wrap_2 (i := (i : Int)) (by omega) (by omega)
    have hc := isAt_ev i (by omega) (rd_T64 l (i : Int)).f0 (rd_T64 l (i : Int)).f1 (by rw [rdCommit hi]; exact hf _ (List.getElem_mem hi))
    rw [hp] at hc
    refine Ev.succ (g := fun k => impl_areCommits.l0 k l l (l.length : Int) (i : Int)) ?_
    simp only [impl_areCommits.l0, c1, Int.natCast_nonneg, if_true, w]
    refine Ev.bind hc ?_
    simp only [if_true]
    exact hr) (fun i _ hi _ hp => by
    have c1 : (i : Int) < (l.length : Int) := by omega
    have w := wrap_2 (i := (i : Int)) (by omega) (by omega)
    have hc := isAt_ev i (by omega) (rd_T64 l (i : Int)).f0 (rd_T64 l (i : Int)).f1 (by rw [rdCommit hi]; exact hf _ (List.getElem_mem hi))
    rw [hp] at hc
    refine Ev.succ (g := fun k => impl_areCommits.l0 k l l (l.length : Int) (i : Int)) ?_
    simp only [impl_areCommits.l0, c1, Int.natCast_nonneg, if_true, w]
    refine Ev.bind hc ?_
    simp only [Bool.false_eq_true, if_false]
    exact Ev.now _) (Ev.at_ (c := 1) (fun k => by
    simp only [impl_areCommits.l0]
    rw [if_neg (by omega)])) (Nat.zero_le _) (fun j hj => absurd hj (Nat.not_lt_zero _))
theorem storeOK_ev (l : List S64) (hl : l.length ≤ 1048576) (hf : ∀ x, x ∈ l → x.f1.length ≤ 1048576) : Ev (fun k => impl_StoreOK.f k l) (storeB l) := by
  unfold impl_StoreOK.f storeB
  by_cases h0 : (l.length : Int) > 0
  · have hi : inB l.length 1 60 = decide ((l.length : Int) ≤ 60) := by
      unfold inB
      rw [decide_eq_true (by omega), Bool.true_and]
    simp only [h0, if_true, impl_Commit.f, Option.bind_some]
    by_cases h4 : (l.length : Int) ≤ 4096
    · simp only [h4, decide_true, if_true]
      rw [hi, Bool.and_comm]
      exact Ev.bind (areCommits_ev l hl hf) (Ev.now _)
    · simp only [h4, decide_false, Bool.false_eq_true, if_false]
      rw [hi, decide_eq_false (by omega), Bool.false_and]
      exact Ev.now _
  · have hi : inB l.length 1 60 = false := by
      unfold inB
      rw [decide_eq_false (by omega), Bool.false_and]
    simp only [h0, if_false, hi, Bool.false_and]
    exact Ev.now _
end Go.Proofs.YtblejbgkcgajgaaGreat.Q
end

section
namespace Go.Proofs.YtblejbgkcgajgaaGreat.Q
open Go.RowKit Go.Proofs.YtblejbgkcgajgaaGreatW.PrintWords Go.Proofs.YtblejbgkcgajgaaGreatW.PrintLast
set_option linter.unusedVariables false
set_option linter.unusedSimpArgs false
theorem rdRef {l : List S92} {i : Nat} (h : i < l.length) : rd_T92 l (i : Int) = l[i] := by
  simp [rd_T92, List.getD_eq_getElem?_getD, List.getElem?_eq_getElem h]
theorem l04At_ev (l : List S92) (n : ByteArray) (hlen : l.length ≤ 1048576) : Ev (fun k => spec_l04At.f k l n) (placeI l n) := by
  refine ev_idx_loop (L := fun k i => spec_l04At.l0 k l n i) (q := isNm n) ?_ ?_ ?_
  · intro i hi hq k
    have hq2 : ¬ (l[i].f0.toList = n.toList) := by simpa [isNm] using hq
    have c1 : (i : Int) < (l.length : Int) := by omega
    simp only [spec_l04At.l0, rdRef hi, c1, hq2, if_true, if_false, Int.natCast_nonneg, wrap_i (show i < 4611686018427387904 by omega)]
  · intro i hi hq k
    have hq2 : l[i].f0.toList = n.toList := by simpa [isNm] using hq
    have c1 : (i : Int) < (l.length : Int) := by omega
    simp only [spec_l04At.l0, rdRef hi, c1, hq2, if_true, Int.natCast_nonneg]
  · intro k
    simp only [spec_l04At.l0]
    rw [if_neg (by omega)]
theorem placeI_self {l : List S92} {i : Nat} (hi : i < l.length) : (placeI l l[i].f0 = (i : Int)) ↔ placeI (l.take i) l[i].f0 < 0 := by
  have hself : isNm l[i].f0 l[i] = true := by simp [isNm]
  have e : l = l.take i ++ l[i] :: l.drop (i + 1) := by rw [← List.drop_eq_getElem_cons hi, List.take_append_drop]
  cases h : (l.take i).findIdx? (isNm l[i].f0) with
  | none =>
    have h1 : placeI (l.take i) l[i].f0 = -1 := by unfold placeI idxI; rw [h]
    have h0 := List.findIdx?_eq_none_iff.mp h
    have h2 : placeI l l[i].f0 = (i : Int) := idxI_some hi (fun j hj => by
      have hm : l[j] ∈ l.take i := List.mem_take_iff_getElem.mpr ⟨j, by omega, rfl⟩
      simpa using h0 _ hm) hself
    rw [h1, h2]
    simp
  | some j =>
    obtain ⟨hj, hp, hmin⟩ := List.findIdx?_eq_some_iff_getElem.mp h
    have hj2 : j < i := by rw [List.length_take] at hj; omega
    have h1 : placeI (l.take i) l[i].f0 = (j : Int) := by unfold placeI idxI; rw [h]
    have h2 : placeI l l[i].f0 = (j : Int) := idxI_some (by omega) (fun k hk => by
      have := hmin k hk
      simpa using this) (by simpa using hp)
    rw [h1, h2]
    constructor
    · intro h3
      omega
    · intro h3
      omega
def refAt (l : List S92) (i : Nat) : Bool := refB (rd_T92 l (i : Int)) && decide (placeI (l.take i) (rd_T92 l (i : Int)).f0 < 0)
theorem refsB_at (l : List S92) : refsB l = (decide (l.length ≤ 8) && allR (refAt l) l.length) := by
  unfold refsB refAt
  rw [allR_and, all_allR refB z92 l]
  rfl
theorem l04OK_ev (l : List S92) : Ev (fun k => spec_l04OK.f k l) (refsB l) := by
  by_cases h8 : l.length ≤ 8
  · have e : refsB l = (allR (refAt l) l.length && true) := by rw [refsB_at, decide_eq_true h8, Bool.true_and, Bool.and_true]
    rw [e]
    refine Ev.congr (f := fun k => spec_l04OK.l0 k l ((0 : Nat) : Int)) (fun k => by unfold spec_l04OK.f; rw [if_neg (by omega)]; rfl) ?_
    refine ev_all_loop2 (L := fun k i => spec_l04OK.l0 k l i) (p := refAt l) 0 ?_ ?_ (Ev.step (f := fun _ => some true) (fun k => by simp only [spec_l04OK.l0]; rw [if_neg (by omega)]) (Ev.now _)) (Nat.zero_le _) (fun j hj => absurd hj (Nat.not_lt_zero _))
    · intro i _ hi _ hp r hr
      have c1 : (i : Int) < (l.length : Int) := by omega
      have hw := wrap_i (show i < 4611686018427387904 by omega)
      unfold refAt at hp
      rw [rdRef hi] at hp
      simp only [Bool.and_eq_true, decide_eq_true_eq, refB] at hp
      obtain ⟨⟨⟨h1, h2⟩, h3⟩, h4⟩ := hp
      have h4' := (placeI_self hi).mpr h4
      refine Ev.succ (g := fun k => spec_l04OK.l0 k l (i : Int)) ?_
      simp only [spec_l04OK.l0, rdRef hi, c1, Int.natCast_nonneg, if_true]
      refine Ev.bind (h1 ▸ l00Word_ev _) ?_
      simp only [if_true, l01In_is, h2, Option.bind_some]
      refine Ev.bind (h4' ▸ l04At_ev l l[i].f0 (by omega)) ?_
      simp only [if_true, hw]
      cases h5 : l[i].f3 with
      | true =>
        rw [h5] at h3
        simp only [if_true, beq_iff_eq] at h3
        simp only [h3, if_true]
        exact hr
      | false =>
        rw [h5] at h3
        simp only [Bool.false_eq_true, if_false] at h3
        simp only [Bool.false_eq_true, if_false, h3, Option.bind_some, if_true]
        exact hr
    · intro i _ hi _ hp
      have c1 : (i : Int) < (l.length : Int) := by omega
      unfold refAt at hp
      rw [rdRef hi] at hp
      refine Ev.succ (g := fun k => spec_l04OK.l0 k l (i : Int)) ?_
      simp only [spec_l04OK.l0, rdRef hi, c1, Int.natCast_nonneg, if_true]
      refine Ev.bind (l00Word_ev _) ?_
      cases h1 : nameB l[i].f0 with
      | false => simp only [Bool.false_eq_true, if_false]; exact Ev.now _
      | true =>
        simp only [if_true, l01In_is, Option.bind_some]
        cases h2 : inB l[i].f2 1 1000000 with
        | false => simp only [Bool.false_eq_true, if_false]; exact Ev.now _
        | true =>
          simp only [if_true]
          refine Ev.bind (l04At_ev l l[i].f0 (by omega)) ?_
          by_cases h4 : placeI l l[i].f0 = (i : Int)
          · have h4' := (placeI_self hi).mp h4
            simp only [refB, h1, h2, Bool.true_and, decide_eq_true h4', Bool.and_true] at hp
            simp only [h4, if_true]
            cases h5 : l[i].f3 with
            | true =>
              rw [h5] at hp
              simp only [if_true, beq_eq_false_iff_ne] at hp
              simp only [if_true, hp, if_false]
              exact Ev.now _
            | false =>
              rw [h5] at hp
              simp only [Bool.false_eq_true, if_false] at hp
              simp only [Bool.false_eq_true, if_false, hp]
              exact Ev.now _
          · simp only [h4, if_false]
            exact Ev.now _
  · have e : refsB l = false := by unfold refsB; rw [decide_eq_false h8, Bool.false_and]
    rw [e]
    exact Ev.congr (f := fun _ => some false) (fun k => by unfold spec_l04OK.f; rw [if_pos (by omega)]) (Ev.now _)
theorem refsOK_ev (l : List S92) : Ev (fun k => impl_RefsOK.f k l) (refsB l) := by
  by_cases h8 : l.length ≤ 8
  · have n8 : ¬ ((l.length : Int) > 8) := by omega
    cases ha : l.all refB with
    | false =>
      have e : refsB l = false := by unfold refsB; rw [ha, Bool.false_and, Bool.and_false]
      rw [e]
      refine Ev.at_ (c := 1) (fun k => ?_)
      simp only [impl_RefsOK.f, n8, if_false, areAllRef_isRef.f, ha, Option.bind_some, impl_RefsOK.j0, Bool.not_false, if_true]
    | true =>
      have e : refsB l = (allR (fun j => decide (placeI (l.take j) (rd_T92 l (j : Int)).f0 < 0)) l.length && true) := by unfold refsB; rw [decide_eq_true h8, ha, Bool.true_and, Bool.true_and, Bool.and_true]
      rw [e]
      refine Ev.step (f := fun k => impl_RefsOK.l0 k l l (l.length : Int) 0) (fun k => ?_) ?_
      · simp only [impl_RefsOK.f, n8, if_false, areAllRef_isRef.f, ha, Option.bind_some, impl_RefsOK.j0, Bool.not_true, Bool.false_eq_true]
      · refine ev_all_loop (L := fun k i => impl_RefsOK.l0 k l l (l.length : Int) i) ?_ ?_ ?_
        · intro i hi _ hp
          refine ⟨1, 0, fun k => ?_⟩
          have c1 : (i : Int) < (l.length : Int) := by omega
          have c2 : (i : Int) ≤ (l.length : Int) := by omega
          have c3 : ¬ (placeI (l.take i) (rd_T92 l (i : Int)).f0 ≥ 0) := by simp only [decide_eq_true_eq] at hp; omega
          simp only [impl_RefsOK.l0, c1, c2, Int.natCast_nonneg, if_true, impl_place.f, Option.bind_some, Int.toNat_natCast, c3, if_false, wrap_i (show i < 4611686018427387904 by omega), Nat.add_zero]
        · intro i hi _ hp
          refine ⟨1, fun k => ?_⟩
          have c1 : (i : Int) < (l.length : Int) := by omega
          have c2 : (i : Int) ≤ (l.length : Int) := by omega
          have c3 : placeI (l.take i) (rd_T92 l (i : Int)).f0 ≥ 0 := by simp only [decide_eq_false_iff_not] at hp; omega
          simp only [impl_RefsOK.l0, c1, c2, Int.natCast_nonneg, if_true, impl_place.f, Option.bind_some, Int.toNat_natCast, c3]
        · refine Ev.at_ (c := 1) (fun k => ?_)
          simp only [impl_RefsOK.l0]
          rw [if_neg (by omega)]
  · have e : refsB l = false := by unfold refsB; rw [decide_eq_false h8, Bool.false_and]
    rw [e]
    refine Ev.at_ (c := 1) (fun k => ?_)
    unfold impl_RefsOK.f
    rw [if_pos (by omega)]
    simp only [impl_RefsOK.j0, if_true]
end Go.Proofs.YtblejbgkcgajgaaGreat.Q
end

section
namespace Go.Proofs.YtblejbgkcgajgaaGreat.Q
open Go.RowKit Go.Proofs.YtblejbgkcgajgaaGreatW.PrintWords Go.Proofs.YtblejbgkcgajgaaGreatW.PrintLast
set_option linter.unusedVariables false
set_option linter.unusedSimpArgs false
theorem szBase_ev (a : List S75) (b : List S89) (ha : a.length ≤ 9223372036854775807 ∧ ∀ x, x ∈ a → good75 x) (hb : b.length ≤ 9223372036854775807 ∧ ∀ x, x ∈ b → good89 x) (left : Int) (h0 : 0 ≤ left) (h1 : left ≤ 1048576) :
    ∃ r, Ev (fun k => laws_szBase.f k a b left) r ∧ r ≤ left ∧ (0 ≤ r → (a.length ≤ 1048576 ∧ ∀ x, x ∈ a → fitC x) ∧ b.length ≤ 1048576) := by
  obtain ⟨r, hr, hrl, hrs⟩ := szCommitS_ev a ha.1 ha.2 left h0 h1
  unfold laws_szBase.f
  by_cases hn : r < 0
  · exact ⟨-1, Ev.bind hr (by simp only [hn, if_true]; exact Ev.now _), by omega, by omega⟩
  · obtain ⟨r2, hr2, hrl2, hrs2⟩ := szRefS_ev b hb.1 hb.2 r (by omega) (by omega)
    by_cases hn2 : r2 < 0
    · exact ⟨-1, Ev.bind hr (by simp only [hn, if_false]; exact Ev.bind hr2 (by simp only [hn2, if_true]; exact Ev.now _)), by omega, by omega⟩
    · exact ⟨r2, Ev.bind hr (by simp only [hn, if_false]; exact Ev.bind hr2 (by simp only [hn2, if_false]; exact Ev.now _)), by omega, fun h => ⟨hrs (by omega), hrs2 h⟩⟩
theorem toBase_ev (a : List S75) (b : List S89) (ha : a.length ≤ 1048576) (hf : ∀ x, x ∈ a → fitC x) (hb : b.length ≤ 1048576) : Ev (fun k => laws_toBase.f k a b) (a.map cvCommit, b.map cvRef) := by
  unfold laws_toBase.f
  exact Ev.bind (toCommitS_ev a ha hf) (Ev.bind (toRefS_ev b hb) (Ev.now _))
theorem eqBase_ev (a : List S64) (b : List S92) (ha : a.length ≤ 1048576) (hf : ∀ x, x ∈ a → x.f0.length ≤ 1048576 ∧ x.f1.length ≤ 1048576) (hb : b.length ≤ 1048576) : Ev (fun k => laws_eqBase.f k a b a b) true := by
  unfold laws_eqBase.f
  refine Ev.bind (eqCommitS_ev a ha hf) ?_
  simp only [if_true]
  refine Ev.bind (eqRefS_ev b hb) ?_
  simp only [if_true]
  exact Ev.now _
def baseB (st : List S64) (rf : List S92) : Bool := storeB st && (refsB rf && rf.all (fun x => decide (x.f1 ≤ (st.length : Int))))
theorem refsB_few {l : List S92} (h : refsB l = true) : l.length ≤ 8 := by
  unfold refsB at h
  simp only [Bool.and_eq_true, decide_eq_true_eq] at h
  exact h.1
theorem l05OK_ev (st : List S64) (rf : List S92) : Ev (fun k => spec_l05OK.f k st rf) (baseB st rf) := by
  unfold spec_l05OK.f baseB
  refine Ev.bind (l03OK_ev st) ?_
  cases hs : storeB st with
  | false =>
    simp only [Bool.false_eq_true, if_false, Bool.false_and]
    exact Ev.at_ (c := 1) (fun k => by simp only [spec_l05OK.j0, if_true])
  | true =>
    simp only [if_true, Bool.true_and]
    refine Ev.bind (l04OK_ev rf) ?_
    cases hr : refsB rf with
    | false =>
      simp only [Bool.false_and, Bool.not_false]
      exact Ev.at_ (c := 1) (fun k => by simp only [spec_l05OK.j0, if_true])
    | true =>
      have h8 := refsB_few hr
      simp only [Bool.true_and, Bool.not_true]
      refine Ev.succ ?_
      simp only [spec_l05OK.j0, Bool.false_eq_true, if_false]
      have h := ev_all_loop (L := fun k i => spec_l05OK.l0 k i st rf) (n := rf.length) (p := fun i => decide ((rf.getD i z92).f1 ≤ (st.length : Int))) (fin := true) (fun i hi _ hp => by
        have c1 : (i : Int) < (rf.length : Int) := by omega
        have e1 : rd_T92 rf (i : Int) = rf.getD i z92 := rfl
        rw [decide_eq_true_eq] at hp
        have c2 : ¬ (rf.getD i z92).f1 > (st.length : Int) := by omega
        exact ⟨1, 0, fun k => by simp only [spec_l05OK.l0, c1, Int.natCast_nonneg, if_true, e1, c2, if_false, wrap_i (show i < 4611686018427387904 by omega), Nat.add_zero]⟩) (fun i hi _ hp => by
        have c1 : (i : Int) < (rf.length : Int) := by omega
        have e1 : rd_T92 rf (i : Int) = rf.getD i z92 := rfl
        rw [decide_eq_false_iff_not] at hp
        have c2 : (rf.getD i z92).f1 > (st.length : Int) := by omega
        exact ⟨1, fun k => by simp only [spec_l05OK.l0, c1, Int.natCast_nonneg, if_true, e1, c2]⟩) (Ev.at_ (c := 1) (fun k => by
        simp only [spec_l05OK.l0]
        rw [if_neg (by omega)]))
      rw [Bool.and_true] at h
      rw [all_allR (fun x => decide (x.f1 ≤ (st.length : Int))) z92 rf]
      exact h
theorem baseOK_ev (st : List S64) (rf : List S92) (hs : st.length ≤ 1048576) (hf : ∀ x, x ∈ st → x.f1.length ≤ 1048576) : Ev (fun k => impl_BaseOK.f k st rf) (baseB st rf) := by
  unfold impl_BaseOK.f baseB
  refine Ev.bind (storeOK_ev st hs hf) ?_
  cases storeB st with
  | false => simp only [Bool.false_eq_true, if_false, Bool.false_and]; exact Ev.now _
  | true =>
    simp only [if_true, Bool.true_and]
    refine Ev.bind (refsOK_ev rf) ?_
    cases refsB rf with
    | false => simp only [Bool.false_eq_true, if_false, Bool.false_and]; exact Ev.now _
    | true => simp only [if_true, Bool.true_and, areAllRef_baseOK.f, Option.bind_some]; exact Ev.now _
end Go.Proofs.YtblejbgkcgajgaaGreat.Q
end

section
namespace Go.Proofs.YtblejbgkcgajgaaGreat.Q
open Go.RowKit Go.Proofs.YtblejbgkcgajgaaGreatW.PrintWords Go.Proofs.YtblejbgkcgajgaaGreatW.PrintLast
set_option linter.unusedVariables false
set_option linter.unusedSimpArgs false
theorem szSnap_is (n : ByteArray) (c left : Int) : ∃ r, laws_szSnap.f n c left = some r := by
  unfold laws_szSnap.f
  split <;> exact ⟨_, rfl⟩
def snapB (st : List S64) (rf : List S92) (n : ByteArray) (c : Int) : Bool := baseB st rf && (nameB n && inB c 1 st.length)
theorem l10Snap_ev (st : List S64) (rf : List S92) (n : ByteArray) (c : Int) : Ev (fun k => spec_l10Snap.f k st rf n c) (nameB n && inB c 1 st.length) := by
  unfold spec_l10Snap.f
  refine Ev.bind (l00Word_ev n) ?_
  cases nameB n with
  | false => simp only [Bool.false_eq_true, if_false, Bool.false_and]; exact Ev.now _
  | true => simp only [if_true, Bool.true_and, l01In_is, Option.bind_some]; exact Ev.now _
theorem within_is (a b c : Int) : impl_within.f a b c = some (inB a b c) := by
  unfold impl_within.f inB
  by_cases h : b ≤ a <;> simp [h]
theorem snapOK_impl (st : List S64) (rf : List S92) (n : ByteArray) (c : Int) (hs : st.length ≤ 1048576) (hf : ∀ x, x ∈ st → x.f1.length ≤ 1048576) : Ev (fun k => impl_SnapOK.f k st rf n c) (snapB st rf n c) := by
  unfold impl_SnapOK.f snapB
  refine Ev.bind (baseOK_ev st rf hs hf) ?_
  cases baseB st rf with
  | false => simp only [Bool.false_eq_true, if_false, Bool.false_and]; exact Ev.now _
  | true =>
    simp only [if_true, Bool.true_and, impl_NameOK.f, Option.bind_some]
    cases nameB n with
    | false => simp only [Bool.false_eq_true, if_false, Bool.false_and]; exact Ev.now _
    | true => simp only [if_true, Bool.true_and, within_is, Option.bind_some]; exact Ev.now _
end Go.Proofs.YtblejbgkcgajgaaGreat.Q
end

section
namespace Go.Proofs.YtblejbgkcgajgaaGreat.Q
open Go.RowKit Go.Proofs.YtblejbgkcgajgaaGreatW.PrintWords Go.Proofs.YtblejbgkcgajgaaGreatW.PrintLast
set_option linter.unusedVariables false
set_option linter.unusedSimpArgs false
theorem rdEntry {l : List S84} {i : Nat} (h : i < l.length) : rd_T84 l (i : Int) = l[i] := by
  simp [rd_T84, List.getD_eq_getElem?_getD, List.getElem?_eq_getElem h]
end Go.Proofs.YtblejbgkcgajgaaGreat.Q
end

section
namespace Go.Proofs.YtblejbgkcgajgaaGreat.Q
open Go.RowKit Go.Proofs.YtblejbgkcgajgaaGreatW.PrintWords Go.Proofs.YtblejbgkcgajgaaGreatW.PrintLast
set_option linter.unusedVariables false
set_option linter.unusedSimpArgs false
theorem mapB_len {l : List S84} (h : mapB l = true) : l.length ≤ 12 := by
  unfold mapB at h
  simp only [Bool.and_eq_true, decide_eq_true_eq] at h
  exact h.1
theorem mapB_rise {l : List S84} (h : mapB l = true) : RiseP l := by
  unfold mapB at h
  simp only [Bool.and_eq_true, allR_iff] at h
  have adj : ∀ j (hj : j + 1 < l.length), sblt l[j].f0 l[j + 1].f0 = true := by
    intro j hj
    have h2 := h.2 (j + 1) hj
    unfold entAt at h2
    have e : (((j + 1 : Nat) : Int) - 1) = (j : Int) := by omega
    rw [e, rdEntry (i := j) (by omega), rdEntry hj] at h2
    have z : (j + 1 == 0) = false := rfl
    simp only [z, Bool.false_or, Bool.and_eq_true] at h2
    exact h2.2
  unfold RiseP
  rw [List.pairwise_iff_getElem]
  intro i j hi hj hij
  obtain ⟨d, rfl⟩ : ∃ d, j = i + 1 + d := ⟨j - (i + 1), by omega⟩
  induction d with
  | zero => exact adj i hj
  | succ d ih => exact sblt_trans (ih (by omega) (by omega)) (adj (i + 1 + d) hj)
theorem cmpK_self {k : ByteArray} {x : S84} : cmpK k x = 0 ↔ x.f0 = k := by
  unfold cmpK cmpB
  rw [cmp_eq]
  constructor
  · intro h
    apply toList_inj
    rw [ByteArray.toList_eq, ByteArray.toList_eq, h]
  · intro h; rw [h]
theorem find_some {l : List S84} {k : ByteArray} {i : Nat} (h : RiseP l) (hi : i < l.length) (hk : l[i].f0 = k) : cntN (cmpK k) l = i ∧ fndB (cmpK k) l = true := by
  have hp := List.pairwise_iff_getElem.mp h
  have hc : cntN (cmpK k) l = i := by
    refine cntN_is l i (by omega) (fun t ht h2 => ?_) (fun t ht h2 => ?_)
    · rw [cmpK_lt, ← hk]
      exact hp t i ht hi h2
    · have h3 : ¬ cmpK k l[t] < 0 := by
        rw [cmpK_lt, ← hk]
        rcases Nat.lt_or_eq_of_le h2 with h4 | h4
        · rw [sblt_asymm (hp i t hi ht h4)]
          simp
        · subst h4
          rw [sblt_irrefl]
          simp
      omega
  refine ⟨hc, ?_⟩
  unfold fndB
  rw [hc, List.getElem?_eq_getElem hi]
  simp only [beq_iff_eq]
  exact cmpK_self.mpr hk
theorem find_none {l : List S84} {k : ByteArray} (hn : ∀ i (hi : i < l.length), l[i].f0 ≠ k) : fndB (cmpK k) l = false := by
  unfold fndB
  cases hx : l[cntN (cmpK k) l]? with
  | none => rfl
  | some x =>
    obtain ⟨hi, rfl⟩ := List.getElem?_eq_some_iff.mp hx
    simp only [beq_eq_false_iff_ne, ne_eq]
    rw [cmpK_self]
    exact hn _ hi
theorem find_f {l : List S84} {k : ByteArray} (h : RiseP l) (hl : l.length ≤ 1048576) : impl_find.f l k = some (((cntN (cmpK k) l : Nat) : Int), fndB (cmpK k) l) := by
  unfold impl_find.f bs_find.f
  rw [if_pos h, if_pos (by omega)]
  rfl
end Go.Proofs.YtblejbgkcgajgaaGreat.Q
end

section
namespace Go.Proofs.YtblejbgkcgajgaaGreat.Q
open Go.RowKit Go.Proofs.YtblejbgkcgajgaaGreatW.PrintWords Go.Proofs.YtblejbgkcgajgaaGreatW.PrintLast
set_option linter.unusedVariables false
set_option linter.unusedSimpArgs false
def putE (y : S84) : S68 := ⟨y.f0, y.f1, false⟩
def delE (x : S84) : S68 := ⟨x.f0, 0, true⟩
def diffM : List S84 → List S84 → List S68
  | [], ys => ys.map putE
  | x :: xs, [] => delE x :: xs.map delE
  | x :: xs, y :: ys =>
    if sblt x.f0 y.f0 = true then delE x :: diffM xs (y :: ys)
    else if sblt y.f0 x.f0 = true then putE y :: diffM (x :: xs) ys
    else if x.f1 = y.f1 then diffM xs ys else putE y :: diffM xs ys
termination_by xs ys => xs.length + ys.length
theorem diffM_nil (xs : List S84) : diffM xs [] = xs.map delE := by
  cases xs with
  | nil => simp [diffM]
  | cons x xs => simp [diffM]
theorem riseP_cons {x : S84} {xs : List S84} (h : RiseP (x :: xs)) : (∀ y, y ∈ xs → sblt x.f0 y.f0 = true) ∧ RiseP xs := by
  unfold RiseP at h ⊢
  exact List.pairwise_cons.mp h
theorem diffM_key : ∀ (xs ys : List S84) (e : S68), e ∈ diffM xs ys → (∃ x, x ∈ xs ∧ e.f0 = x.f0) ∨ (∃ y, y ∈ ys ∧ e.f0 = y.f0)
  | [], ys, e, h => by
    unfold diffM at h
    obtain ⟨y, hy, rfl⟩ := List.mem_map.mp h
    exact .inr ⟨y, hy, rfl⟩
  | x :: xs, [], e, h => by
    rw [diffM_nil] at h
    obtain ⟨z, hz, rfl⟩ := List.mem_map.mp h
    exact .inl ⟨z, hz, rfl⟩
  | x :: xs, y :: ys, e, h => by
    unfold diffM at h
    split at h
    · rcases List.mem_cons.mp h with rfl | h
      · exact .inl ⟨x, List.mem_cons_self, rfl⟩
      · rcases diffM_key xs (y :: ys) e h with ⟨z, hz, hk⟩ | hk
        · exact .inl ⟨z, List.mem_cons_of_mem _ hz, hk⟩
        · exact .inr hk
    · split at h
      · rcases List.mem_cons.mp h with rfl | h
        · exact .inr ⟨y, List.mem_cons_self, rfl⟩
        · rcases diffM_key (x :: xs) ys e h with hk | ⟨z, hz, hk⟩
          · exact .inl hk
          · exact .inr ⟨z, List.mem_cons_of_mem _ hz, hk⟩
      · have hrec : ∀ e, e ∈ diffM xs ys → (∃ z, z ∈ x :: xs ∧ e.f0 = z.f0) ∨ (∃ z, z ∈ y :: ys ∧ e.f0 = z.f0) := by
          intro e h
          rcases diffM_key xs ys e h with ⟨z, hz, hk⟩ | ⟨z, hz, hk⟩
          · exact .inl ⟨z, List.mem_cons_of_mem _ hz, hk⟩
          · exact .inr ⟨z, List.mem_cons_of_mem _ hz, hk⟩
        split at h
        · exact hrec e h
        · rcases List.mem_cons.mp h with rfl | h
          · exact .inr ⟨y, List.mem_cons_self, rfl⟩
          · exact hrec e h
termination_by xs ys => xs.length + ys.length
theorem diffM_rise : ∀ (xs ys : List S84), RiseP xs → RiseP ys → (diffM xs ys).Pairwise (fun a b => sblt a.f0 b.f0 = true)
  | [], ys, _, h => by
    unfold diffM
    rw [List.pairwise_map]
    exact h
  | x :: xs, [], h, _ => by
    rw [diffM_nil, List.pairwise_map]
    exact h
  | x :: xs, y :: ys, h1, h2 => by
    obtain ⟨hx, hx2⟩ := riseP_cons h1
    obtain ⟨hy, hy2⟩ := riseP_cons h2
    unfold diffM
    split
    · rename_i hlt
      refine List.pairwise_cons.mpr ⟨fun e he => ?_, diffM_rise xs (y :: ys) hx2 h2⟩
      rcases diffM_key xs (y :: ys) e he with ⟨z, hz, hk⟩ | ⟨z, hz, hk⟩
      · rw [hk]; exact hx z hz
      · rw [hk]
        rcases List.mem_cons.mp hz with rfl | hz
        · exact hlt
        · exact sblt_trans hlt (hy z hz)
    · rename_i hnlt
      split
      · rename_i hlt
        refine List.pairwise_cons.mpr ⟨fun e he => ?_, diffM_rise (x :: xs) ys h1 hy2⟩
        rcases diffM_key (x :: xs) ys e he with ⟨z, hz, hk⟩ | ⟨z, hz, hk⟩
        · rw [hk]
          rcases List.mem_cons.mp hz with rfl | hz
          · exact hlt
          · exact sblt_trans hlt (hx z hz)
        · rw [hk]; exact hy z hz
      · rename_i hnlt2
        have he0 : x.f0 = y.f0 := sblt_tri (Bool.not_eq_true _ ▸ hnlt) (Bool.not_eq_true _ ▸ hnlt2)
        split
        · exact diffM_rise xs ys hx2 hy2
        · refine List.pairwise_cons.mpr ⟨fun e he => ?_, diffM_rise xs ys hx2 hy2⟩
          rcases diffM_key xs ys e he with ⟨z, hz, hk⟩ | ⟨z, hz, hk⟩
          · rw [hk]
            show sblt y.f0 z.f0 = true
            rw [← he0]; exact hx z hz
          · rw [hk]; exact hy z hz
termination_by xs ys => xs.length + ys.length
def newE (xs : List S84) (y : S84) : List S68 := if xs.any (fun x => decide (x.f0 = y.f0) && decide (x.f1 = y.f1)) then [] else [putE y]
def oldE (ys : List S84) (x : S84) : List S68 := if ys.any (fun y => decide (y.f0 = x.f0)) then [] else [delE x]
theorem newE_skip {x : S84} {xs : List S84} {y : S84} (h : x.f0 ≠ y.f0) : newE (x :: xs) y = newE xs y := by
  unfold newE
  rw [List.any_cons, decide_eq_false h, Bool.false_and, Bool.false_or]
theorem oldE_skip {y : S84} {ys : List S84} {x : S84} (h : y.f0 ≠ x.f0) : oldE (y :: ys) x = oldE ys x := by
  unfold oldE
  rw [List.any_cons, decide_eq_false h, Bool.false_or]
theorem flatMap_congr_ {α β : Type} {f g : α → List β} : ∀ {l : List α}, (∀ x, x ∈ l → f x = g x) → l.flatMap f = l.flatMap g
  | [], _ => rfl
  | x :: xs, h => by rw [List.flatMap_cons, List.flatMap_cons, h x List.mem_cons_self, flatMap_congr_ (fun y hy => h y (List.mem_cons_of_mem _ hy))]
theorem flatMap_one {α β : Type} {g : α → β} : ∀ (l : List α), l.flatMap (fun x => [g x]) = l.map g
  | [] => rfl
  | x :: xs => by rw [List.flatMap_cons, flatMap_one xs]; rfl
theorem diffM_perm : ∀ (xs ys : List S84), RiseP xs → RiseP ys → (ys.flatMap (newE xs) ++ xs.flatMap (oldE ys)).Perm (diffM xs ys)
  | [], ys, _, _ => by
    have e : ys.flatMap (newE []) = ys.map putE := by
      rw [← flatMap_one]
      exact flatMap_congr_ (fun y _ => by simp [newE])
    rw [List.flatMap_nil, List.append_nil, e]
    unfold diffM
    exact List.Perm.refl _
  | x :: xs, [], _, _ => by
    rw [diffM_nil, List.flatMap_nil, List.nil_append, ← flatMap_one]
    rw [flatMap_congr_ (g := fun x => [delE x]) (fun y _ => by simp [oldE])]
  | x :: xs, y :: ys, h1, h2 => by
    obtain ⟨hx, hx2⟩ := riseP_cons h1
    obtain ⟨hy, hy2⟩ := riseP_cons h2
    unfold diffM
    split
    · rename_i hlt
      have hall : ∀ z, z ∈ y :: ys → x.f0 ≠ z.f0 := by
        intro z hz
        rcases List.mem_cons.mp hz with rfl | hz
        · exact sblt_ne hlt
        · exact sblt_ne (sblt_trans hlt (hy z hz))
      have e1 : (y :: ys).flatMap (newE (x :: xs)) = (y :: ys).flatMap (newE xs) := flatMap_congr_ (fun z hz => newE_skip (hall z hz))
      have e2 : oldE (y :: ys) x = [delE x] := by
        unfold oldE
        rw [if_neg]
        intro h
        obtain ⟨z, hz, hk⟩ := List.any_eq_true.mp h
        exact hall z hz (of_decide_eq_true hk).symm
      rw [e1, List.flatMap_cons (f := oldE (y :: ys)), e2]
      exact (List.perm_middle).trans ((diffM_perm xs (y :: ys) hx2 h2).cons _)
    · rename_i hnlt
      split
      · rename_i hlt
        have hall : ∀ z, z ∈ x :: xs → y.f0 ≠ z.f0 := by
          intro z hz
          rcases List.mem_cons.mp hz with rfl | hz
          · exact sblt_ne hlt
          · exact sblt_ne (sblt_trans hlt (hx z hz))
        have e1 : (x :: xs).flatMap (oldE (y :: ys)) = (x :: xs).flatMap (oldE ys) := flatMap_congr_ (fun z hz => oldE_skip (hall z hz))
        have e2 : newE (x :: xs) y = [putE y] := by
          unfold newE
          rw [if_neg]
          intro h
          obtain ⟨z, hz, hk⟩ := List.any_eq_true.mp h
          rw [Bool.and_eq_true, decide_eq_true_eq] at hk
          exact hall z hz hk.1.symm
        rw [e1, List.flatMap_cons (f := newE (x :: xs)), e2]
        exact (diffM_perm (x :: xs) ys h1 hy2).cons _
      · rename_i hnlt2
        have he0 : x.f0 = y.f0 := sblt_tri (Bool.not_eq_true _ ▸ hnlt) (Bool.not_eq_true _ ▸ hnlt2)
        have e1 : ys.flatMap (newE (x :: xs)) = ys.flatMap (newE xs) := flatMap_congr_ (fun z hz => newE_skip (by rw [he0]; exact sblt_ne (hy z hz)))
        have e2 : xs.flatMap (oldE (y :: ys)) = xs.flatMap (oldE ys) := flatMap_congr_ (fun z hz => oldE_skip (by rw [← he0]; exact sblt_ne (hx z hz)))
        have e3 : oldE (y :: ys) x = [] := by
          unfold oldE
          rw [List.any_cons, decide_eq_true he0.symm, Bool.true_or, if_pos rfl]
        have hr := diffM_perm xs ys hx2 hy2
        rw [List.flatMap_cons, List.flatMap_cons, e1, e2, e3, List.nil_append]
        split
        · rename_i hv
          have e4 : newE (x :: xs) y = [] := by
            unfold newE
            rw [List.any_cons, decide_eq_true he0, decide_eq_true hv, Bool.and_self, Bool.true_or, if_pos rfl]
          rw [e4, List.nil_append]
          exact hr
        · rename_i hv
          have e4 : newE (x :: xs) y = [putE y] := by
            unfold newE
            rw [if_neg]
            intro h
            obtain ⟨z, hz, hk⟩ := List.any_eq_true.mp h
            rw [Bool.and_eq_true, decide_eq_true_eq, decide_eq_true_eq] at hk
            rcases List.mem_cons.mp hz with rfl | hz
            · exact hv hk.2
            · exact sblt_ne (hx z hz) (he0.trans hk.1.symm)
          rw [e4]
          exact hr.cons _
termination_by xs ys => xs.length + ys.length
theorem sort_unique {l m : List S68} (hp : l.Perm m) (hm : m.Pairwise (fun a b => sblt a.f0 b.f0 = true)) : sortE l = m := by
  obtain ⟨h1, h2⟩ := sortE_is l
  have h3 : (sortE l).Perm m := h1.trans hp
  refine List.Perm.eq_of_pairwise (le := fun a b => sblt b.f0 a.f0 = false) ?_ h2 ?_ h3
  · intro a b ha hb k1 k2
    have ha' : a ∈ m := h3.mem_iff.mp ha
    have hk : a.f0 = b.f0 := sblt_tri k2 k1
    rcases List.pairwise_iff_getElem.mp hm with hg
    obtain ⟨i, hi, rfl⟩ := List.mem_iff_getElem.mp ha'
    obtain ⟨j, hj, rfl⟩ := List.mem_iff_getElem.mp hb
    rcases Nat.lt_trichotomy i j with h | h | h
    · exact absurd hk (sblt_ne (hg i j hi hj h))
    · subst h; rfl
    · exact absurd hk.symm (sblt_ne (hg j i hj hi h))
  · exact hm.imp (fun h => sblt_asymm h)
theorem diffM_len : ∀ (xs ys : List S84), (diffM xs ys).length ≤ xs.length + ys.length
  | [], ys => by unfold diffM; rw [List.length_map]; omega
  | x :: xs, [] => by rw [diffM_nil, List.length_map]; omega
  | x :: xs, y :: ys => by
    have h1 := diffM_len xs (y :: ys)
    have h2 := diffM_len (x :: xs) ys
    have h3 := diffM_len xs ys
    simp only [List.length_cons] at *
    unfold diffM
    split
    · simp only [List.length_cons]; omega
    · split
      · simp only [List.length_cons]; omega
      · split
        · omega
        · simp only [List.length_cons]; omega
termination_by xs ys => xs.length + ys.length
theorem sblt_is (a b : ByteArray) : Op.bytesLess a.toList b.toList = sblt a b := rfl
theorem l01Diff_end (a b : List S84) (acc : List S68) : Ev (fun q => spec_l01Diff.l0 q a b acc (a.length : Int) (b.length : Int)) (acc ++ diffM (a.drop a.length) (b.drop b.length)) := by
  refine Ev.at_ (c := 2) (fun q => ?_)
  have c1 : ¬ ((a.length : Int) < (a.length : Int)) := by omega
  have c2 : ¬ ((b.length : Int) < (b.length : Int)) := by omega
  simp only [spec_l01Diff.l0, spec_l01Diff.j1, if_neg c1, decide_eq_false c2, Bool.false_eq_true, if_false, List.drop_length]
  unfold diffM
  simp
theorem l01Diff_loop (a b : List S84) (ha : a.length ≤ 1048576) (hb : b.length ≤ 1048576) : ∀ (d i j : Nat) (acc : List S68), i ≤ a.length → j ≤ b.length → (a.length - i) + (b.length - j) ≤ d → acc.length + d ≤ 100000000 →
    Ev (fun q => spec_l01Diff.l0 q a b acc (i : Int) (j : Int)) (acc ++ diffM (a.drop i) (b.drop j)) := by
  intro d
  induction d with
  | zero =>
    intro i j acc hi hj hd _
    obtain rfl : i = a.length := by omega
    obtain rfl : j = b.length := by omega
    exact l01Diff_end a b acc
  | succ d ih =>
    intro i j acc hi hj hd hacc
    have hlen : acc.length < 4398046511104 := by omega
    have i0 : (0 : Int) ≤ (i : Int) := Int.natCast_nonneg _
    have j0 : (0 : Int) ≤ (j : Int) := Int.natCast_nonneg _
    have wi := wrap_i (show i < 4611686018427387904 by omega)
    have wj := wrap_i (show j < 4611686018427387904 by omega)
    have hap : ∀ (acc : List S68) (e : S68) (l : List S68), acc ++ e :: l = (acc ++ [e]) ++ l := fun acc e l => by simp
    by_cases hil : i < a.length
    · have ci : (i : Int) < (a.length : Int) := by omega
      have ri : rd_T84 a (i : Int) = a[i] := rdEntry hil
      have da : a.drop i = a[i] :: a.drop (i + 1) := List.drop_eq_getElem_cons hil
      by_cases hjl : j < b.length
      · have cj : (j : Int) < (b.length : Int) := by omega
        have cj2 : ¬ ((j : Int) = (b.length : Int)) := by omega
        have rj : rd_T84 b (j : Int) = b[j] := rdEntry hjl
        have db : b.drop j = b[j] :: b.drop (j + 1) := List.drop_eq_getElem_cons hjl
        have ci2 : ¬ ((i : Int) = (a.length : Int)) := by omega
        rw [da, db]
        unfold diffM
        by_cases h1 : sblt a[i].f0 b[j].f0 = true
        · rw [if_pos h1, hap, ← db]
          refine Ev.shift (c := 3) (d := 0) (fun q => ?_) (ih (i + 1) j (acc ++ [delE a[i]]) (by omega) hj (by omega) (by rw [List.length_append]; simp only [List.length_cons, List.length_nil]; omega))
          simp only [spec_l01Diff.l0, spec_l01Diff.j1, spec_l01Diff.j2, if_pos ci, if_true, if_neg cj2, if_pos i0, if_pos j0, if_pos cj, ri, rj, sblt_is, h1, if_pos hlen, wi, Nat.add_zero, delE]
        · rw [if_neg h1]
          have h1f : sblt a[i].f0 b[j].f0 = false := Bool.not_eq_true _ ▸ h1
          by_cases h2 : sblt b[j].f0 a[i].f0 = true
          · rw [if_pos h2, hap, ← da]
            refine Ev.shift (c := 4) (d := 0) (fun q => ?_) (ih i (j + 1) (acc ++ [putE b[j]]) hi (by omega) (by omega) (by rw [List.length_append]; simp only [List.length_cons, List.length_nil]; omega))
            simp only [spec_l01Diff.l0, spec_l01Diff.j1, spec_l01Diff.j2, spec_l01Diff.j3, if_pos ci, if_true, if_neg cj2, if_pos i0, if_pos j0, if_pos cj, ri, rj, sblt_is, h1f, Bool.false_eq_true, if_false, if_neg ci2, h2, if_pos hlen, wj, Nat.add_zero, putE]
          · rw [if_neg h2]
            have h2f : sblt b[j].f0 a[i].f0 = false := Bool.not_eq_true _ ▸ h2
            by_cases h3 : a[i].f1 = b[j].f1
            · rw [if_pos h3]
              refine Ev.shift (c := 4) (d := 0) (fun q => ?_) (ih (i + 1) (j + 1) acc (by omega) (by omega) (by omega) (by omega))
              simp only [spec_l01Diff.l0, spec_l01Diff.j1, spec_l01Diff.j2, spec_l01Diff.j3, if_pos ci, if_true, if_neg cj2, if_pos i0, if_pos j0, if_pos cj, ri, rj, sblt_is, h1f, Bool.false_eq_true, if_false, if_neg ci2, h2f, if_pos h3, wi, wj, Nat.add_zero]
            · rw [if_neg h3, hap]
              refine Ev.shift (c := 4) (d := 0) (fun q => ?_) (ih (i + 1) (j + 1) (acc ++ [putE b[j]]) (by omega) (by omega) (by omega) (by rw [List.length_append]; simp only [List.length_cons, List.length_nil]; omega))
              simp only [spec_l01Diff.l0, spec_l01Diff.j1, spec_l01Diff.j2, spec_l01Diff.j3, if_pos ci, if_true, if_neg cj2, if_pos i0, if_pos j0, if_pos cj, ri, rj, sblt_is, h1f, Bool.false_eq_true, if_false, if_neg ci2, h2f, if_neg h3, if_pos hlen, wi, wj, Nat.add_zero, putE]
      · obtain rfl : j = b.length := by omega
        have hr := ih (i + 1) b.length (acc ++ [delE a[i]]) (by omega) hj (by omega) (by rw [List.length_append]; simp only [List.length_cons, List.length_nil]; omega)
        rw [List.drop_length, diffM_nil] at hr ⊢
        rw [da, List.map_cons, hap]
        refine Ev.shift (c := 3) (d := 0) (fun q => ?_) hr
        simp only [spec_l01Diff.l0, spec_l01Diff.j1, spec_l01Diff.j2, if_pos ci, if_true, if_pos i0, ri, if_pos hlen, wi, Nat.add_zero, delE]
    · obtain rfl : i = a.length := by omega
      by_cases hjl : j < b.length
      case neg =>
        obtain rfl : j = b.length := by omega
        exact l01Diff_end a b acc
      have ci : ¬ ((a.length : Int) < (a.length : Int)) := by omega
      have cj : (j : Int) < (b.length : Int) := by omega
      have cj2 : ¬ ((j : Int) = (b.length : Int)) := by omega
      have rj : rd_T84 b (j : Int) = b[j] := rdEntry hjl
      have db : b.drop j = b[j] :: b.drop (j + 1) := List.drop_eq_getElem_cons hjl
      have hr := ih a.length (j + 1) (acc ++ [putE b[j]]) hi (by omega) (by omega) (by rw [List.length_append]; simp only [List.length_cons, List.length_nil]; omega)
      have e0 : ∀ l : List S84, diffM [] l = l.map putE := fun l => by unfold diffM; rfl
      rw [List.drop_length, e0] at hr ⊢
      rw [db, List.map_cons, hap]
      refine Ev.shift (c := 4) (d := 0) (fun q => ?_) hr
      simp only [spec_l01Diff.l0, spec_l01Diff.j1, spec_l01Diff.j2, spec_l01Diff.j3, if_neg ci, decide_eq_true cj, if_true, if_neg cj2, Bool.false_eq_true, if_false, if_pos j0, if_pos cj, rj, if_pos hlen, wj, Nat.add_zero, putE]
theorem l01Diff_ev (a b : List S84) (ha : a.length ≤ 1048576) (hb : b.length ≤ 1048576) : Ev (fun q => spec_l01Diff.f q a b) (diffM a b) := by
  have h := l01Diff_loop a b ha hb (a.length + b.length) 0 0 [] (Nat.zero_le _) (Nat.zero_le _) (by omega) (by simp only [List.length_nil]; omega)
  rw [List.drop_zero, List.drop_zero, List.nil_append] at h
  exact h
theorem newE_found {a : List S84} {y : S84} {t : Nat} (h : RiseP a) (ht : t < a.length) (hk : a[t].f0 = y.f0) : newE a y = if a[t].f1 = y.f1 then [] else [putE y] := by
  unfold newE
  by_cases hv : a[t].f1 = y.f1
  · rw [if_pos hv, if_pos]
    exact List.any_eq_true.mpr ⟨a[t], List.getElem_mem ht, by rw [decide_eq_true hk, decide_eq_true hv]; rfl⟩
  · rw [if_neg hv, if_neg]
    intro hh
    obtain ⟨z, hz, hq⟩ := List.any_eq_true.mp hh
    rw [Bool.and_eq_true, decide_eq_true_eq, decide_eq_true_eq] at hq
    obtain ⟨s, hs, rfl⟩ := List.mem_iff_getElem.mp hz
    have e1 := (find_some h hs hq.1).1
    have e2 := (find_some h ht hk).1
    obtain rfl : s = t := by rw [← e1, e2]
    exact hv hq.2
theorem newE_none {a : List S84} {y : S84} (h : ∀ i (hi : i < a.length), a[i].f0 ≠ y.f0) : newE a y = [putE y] := by
  unfold newE
  rw [if_neg]
  intro hh
  obtain ⟨z, hz, hq⟩ := List.any_eq_true.mp hh
  rw [Bool.and_eq_true, decide_eq_true_eq] at hq
  obtain ⟨s, hs, rfl⟩ := List.mem_iff_getElem.mp hz
  exact h s hs hq.1
theorem oldE_found {b : List S84} {x : S84} {t : Nat} (ht : t < b.length) (hk : b[t].f0 = x.f0) : oldE b x = [] := by
  unfold oldE
  rw [if_pos]
  exact List.any_eq_true.mpr ⟨b[t], List.getElem_mem ht, decide_eq_true hk⟩
theorem oldE_none {b : List S84} {x : S84} (h : ∀ i (hi : i < b.length), b[i].f0 ≠ x.f0) : oldE b x = [delE x] := by
  unfold oldE
  rw [if_neg]
  intro hh
  obtain ⟨z, hz, hq⟩ := List.any_eq_true.mp hh
  obtain ⟨s, hs, rfl⟩ := List.mem_iff_getElem.mp hz
  exact h s hs (of_decide_eq_true hq)
theorem diff_l1 (a b : List S84) (hra : RiseP a) (hrb : RiseP b) (ha : a.length ≤ 1048576) (hb : b.length ≤ 1048576) : ∀ (d i : Nat) (acc : List S68), i + d = a.length → acc.length + d ≤ 100000000 →
    Ev (fun q => impl_diff.l1 q b acc a (a.length : Int) (i : Int)) (sortE (acc ++ (a.drop i).flatMap (oldE b))) := by
  intro d
  induction d with
  | zero =>
    intro i acc hi hacc
    obtain rfl : i = a.length := by omega
    have c1 : ¬ ((a.length : Int) < (a.length : Int)) := by omega
    have hlen : acc.length < 4611686018427387904 := by omega
    refine Ev.at_ (c := 1) (fun q => ?_)
    rw [List.drop_length, List.flatMap_nil, List.append_nil]
    simp only [impl_diff.l1, if_neg c1, sort_Edit.f, if_pos hlen, Option.bind_some]
  | succ d ih =>
    intro i acc hi hacc
    have hil : i < a.length := by omega
    have c1 : (i : Int) < (a.length : Int) := by omega
    have i0 : (0 : Int) ≤ (i : Int) := Int.natCast_nonneg _
    have ri : rd_T84 a (i : Int) = a[i] := rdEntry hil
    have hlen : acc.length < 4398046511104 := by omega
    have w := wrap_i (show i < 4611686018427387904 by omega)
    rw [List.drop_eq_getElem_cons hil, List.flatMap_cons]
    by_cases hx : ∃ t, ∃ ht : t < b.length, b[t].f0 = a[i].f0
    · obtain ⟨t, ht, hk⟩ := hx
      obtain ⟨e1, e2⟩ := find_some hrb ht hk
      have hf : impl_find.f b a[i].f0 = some ((t : Int), true) := by rw [find_f hrb hb, e1, e2]
      rw [oldE_found ht hk, List.nil_append]
      refine Ev.shift (c := 1) (d := 0) (fun q => ?_) (ih (i + 1) acc (by omega) (by omega))
      simp only [impl_diff.l1, if_pos c1, if_pos i0, ri, hf, Option.bind_some, if_true, w, Nat.add_zero]
    · have hn : ∀ t (ht : t < b.length), b[t].f0 ≠ a[i].f0 := fun t ht hk => hx ⟨t, ht, hk⟩
      have hf : impl_find.f b a[i].f0 = some (((cntN (cmpK a[i].f0) b : Nat) : Int), false) := by rw [find_f hrb hb, find_none hn]
      rw [oldE_none hn, ← List.append_assoc]
      refine Ev.shift (c := 1) (d := 0) (fun q => ?_) (ih (i + 1) (acc ++ [delE a[i]]) (by omega) (by rw [List.length_append]; simp only [List.length_cons, List.length_nil]; omega))
      simp only [impl_diff.l1, if_pos c1, if_pos i0, ri, hf, Option.bind_some, Bool.false_eq_true, if_false, if_pos hlen, w, Nat.add_zero, delE]
theorem diff_l0 (a b : List S84) (hra : RiseP a) (hrb : RiseP b) (ha : a.length ≤ 1048576) (hb : b.length ≤ 1048576) : ∀ (d i : Nat) (acc : List S68), i + d = b.length → acc.length + d ≤ 90000000 →
    Ev (fun q => impl_diff.l0 q a b acc b (b.length : Int) (i : Int)) (sortE (acc ++ ((b.drop i).flatMap (newE a) ++ a.flatMap (oldE b)))) := by
  intro d
  induction d with
  | zero =>
    intro i acc hi hacc
    obtain rfl : i = b.length := by omega
    have c1 : ¬ ((b.length : Int) < (b.length : Int)) := by omega
    have h := diff_l1 a b hra hrb ha hb a.length 0 acc (by omega) (by omega)
    rw [List.drop_zero] at h
    rw [List.drop_length, List.flatMap_nil, List.nil_append]
    refine Ev.shift (c := 1) (d := 0) (fun q => ?_) h
    simp only [impl_diff.l0, if_neg c1, Nat.add_zero]
    rfl
  | succ d ih =>
    intro i acc hi hacc
    have hil : i < b.length := by omega
    have c1 : (i : Int) < (b.length : Int) := by omega
    have i0 : (0 : Int) ≤ (i : Int) := Int.natCast_nonneg _
    have ri : rd_T84 b (i : Int) = b[i] := rdEntry hil
    have hlen : acc.length < 4398046511104 := by omega
    have w := wrap_i (show i < 4611686018427387904 by omega)
    have hadd : ∀ (e : S68) (l : List S68), acc ++ ([e] ++ l ++ a.flatMap (oldE b)) = (acc ++ [e]) ++ (l ++ a.flatMap (oldE b)) := fun e l => by simp
    rw [List.drop_eq_getElem_cons hil, List.flatMap_cons]
    by_cases hx : ∃ t, ∃ ht : t < a.length, a[t].f0 = b[i].f0
    · obtain ⟨t, ht, hk⟩ := hx
      obtain ⟨e1, e2⟩ := find_some hra ht hk
      have hf : impl_find.f a b[i].f0 = some ((t : Int), true) := by rw [find_f hra ha, e1, e2]
      have t0 : (0 : Int) ≤ (t : Int) := Int.natCast_nonneg _
      have t1 : (t : Int) < (a.length : Int) := by omega
      have rt : rd_T84 a (t : Int) = a[t] := rdEntry ht
      rw [newE_found hra ht hk]
      by_cases hv : a[t].f1 = b[i].f1
      · rw [if_pos hv, List.nil_append]
        refine Ev.shift (c := 1) (d := 0) (fun q => ?_) (ih (i + 1) acc (by omega) (by omega))
        simp only [impl_diff.l0, if_pos c1, if_pos i0, ri, hf, Option.bind_some, if_true, if_pos t0, if_pos t1, rt, if_pos hv, w, Nat.add_zero]
      · rw [if_neg hv, hadd]
        refine Ev.shift (c := 1) (d := 0) (fun q => ?_) (ih (i + 1) (acc ++ [putE b[i]]) (by omega) (by rw [List.length_append]; simp only [List.length_cons, List.length_nil]; omega))
        simp only [impl_diff.l0, if_pos c1, if_pos i0, ri, hf, Option.bind_some, if_true, if_pos t0, if_pos t1, rt, if_neg hv, if_pos hlen, w, Nat.add_zero, putE]
    · have hn : ∀ t (ht : t < a.length), a[t].f0 ≠ b[i].f0 := fun t ht hk => hx ⟨t, ht, hk⟩
      have hf : impl_find.f a b[i].f0 = some (((cntN (cmpK b[i].f0) a : Nat) : Int), false) := by rw [find_f hra ha, find_none hn]
      rw [newE_none hn, hadd]
      refine Ev.shift (c := 1) (d := 0) (fun q => ?_) (ih (i + 1) (acc ++ [putE b[i]]) (by omega) (by rw [List.length_append]; simp only [List.length_cons, List.length_nil]; omega))
      simp only [impl_diff.l0, if_pos c1, if_pos i0, ri, hf, Option.bind_some, Bool.false_eq_true, if_false, if_pos hlen, w, Nat.add_zero, putE]
theorem diff_ev (a b : List S84) (hra : RiseP a) (hrb : RiseP b) (ha : a.length ≤ 1048576) (hb : b.length ≤ 1048576) : Ev (fun q => impl_diff.f q a b) (diffM a b) := by
  have h := diff_l0 a b hra hrb ha hb b.length 0 [] (by omega) (by simp only [List.length_nil]; omega)
  rw [List.drop_zero, List.nil_append, sort_unique (diffM_perm a b hra hrb) (diffM_rise a b hra hrb)] at h
  exact h
end Go.Proofs.YtblejbgkcgajgaaGreat.Q
end

section
namespace Go.Proofs.YtblejbgkcgajgaaGreat.Q
open Go.RowKit Go.Proofs.YtblejbgkcgajgaaGreatW.PrintWords Go.Proofs.YtblejbgkcgajgaaGreatW.PrintLast
set_option linter.unusedVariables false
set_option linter.unusedSimpArgs false
theorem eqEdit_refl (x : S68) : laws_eqEdit.f x.f0 x.f1 x.f2 x.f0 x.f1 x.f2 = some true := by
  unfold laws_eqEdit.f
  simp
theorem eqEditS_ev (l : List S68) (h : l.length ≤ 1048576) : Ev (fun k => laws_eqEditS.f k l l) true := by
  refine Ev.congr (f := fun k => laws_eqEditS.l0 k l l 0) (fun k => ?_) ?_
  · unfold laws_eqEditS.f
    rw [if_pos rfl]
  · exact ev_refl_loop (L := laws_eqEditS.l0) (g := fun _ x y => laws_eqEdit.f x.f0 x.f1 x.f2 y.f0 y.f1 y.f2) (z := z68) (fun _ _ _ _ => rfl) l (by omega) (fun x _ => Ev.congr (fun _ => eqEdit_refl x) (Ev.now _))
end Go.Proofs.YtblejbgkcgajgaaGreat.Q
end

section
namespace Go.Proofs.YtblejbgkcgajgaaGreat.Q
open Go.RowKit Go.Proofs.YtblejbgkcgajgaaGreatW.PrintWords Go.Proofs.YtblejbgkcgajgaaGreatW.PrintLast
set_option linter.unusedVariables false
set_option linter.unusedSimpArgs false
theorem markText_l0 : ∀ (d : Nat) (n : Int) (s : ByteArray), 0 ≤ n → n ≤ 9223372036854775807 → n < 10 ^ d → s.size + d ≤ 1000 → ∃ r, Ev (fun k => laws_markText.l0 k n s) r := by
  intro d
  induction d with
  | zero =>
    intro n s h0 hn9 h1 hs
    have hn : ¬ n > 0 := by simp at h1; omega
    have hz : 1 + s.size ≤ 9223372036854775807 := by omega
    exact ⟨_, Ev.at_ (c := 1) (fun k => by simp only [laws_markText.l0, hn, if_false, hz, if_true]; rfl)⟩
  | succ d ih =>
    intro n s h0 hn9 h1 hs
    by_cases hn : n > 0
    · have e1 : Int.tdiv n 10 = n / 10 := Int.tdiv_eq_ediv_of_nonneg h0
      have h2 : n / 10 < 10 ^ d := by
        rw [Int.pow_succ] at h1
        omega
      have hw : wrap64 (n / 10) = n / 10 := by unfold wrap64; omega
      have hz : (strOfNums [(wrap64 (48 + (Int.tmod n 10))) % 256]).size = 1 := rfl
      have hz2 : 1 + s.size ≤ 9223372036854775807 := by omega
      obtain ⟨r, hr⟩ := ih (n / 10) (strOfNums [(wrap64 (48 + (Int.tmod n 10))) % 256] ++ s) (by omega) (by omega) h2 (by rw [ByteArray.size_append, hz]; omega)
      refine ⟨r, Ev.step (fun k => ?_) hr⟩
      simp only [laws_markText.l0, hn, if_true, Option.bind_some, hz, hz2, e1, hw]
    · have hz : 1 + s.size ≤ 9223372036854775807 := by omega
      exact ⟨_, Ev.at_ (c := 1) (fun k => by simp only [laws_markText.l0, hn, if_false, hz, if_true]; rfl)⟩
theorem markTexts : ∃ mt : Int → ByteArray, ∀ n, 0 ≤ n → n ≤ 1000000000 → Ev (fun k => laws_markText.f k n) (mt n) := by
  have h : ∀ n : Int, ∃ s, 0 ≤ n → n ≤ 1000000000 → Ev (fun k => laws_markText.f k n) s := by
    intro n
    by_cases h0 : 0 ≤ n ∧ n ≤ 1000000000
    · by_cases h1 : n ≤ 0
      · exact ⟨_, fun _ _ => Ev.at_ (c := 0) (fun k => by unfold laws_markText.f; rw [if_pos h1])⟩
      · obtain ⟨s, hs⟩ := markText_l0 10 n (⟨#[]⟩ : ByteArray) h0.1 (by omega) (by omega) (by decide)
        exact ⟨s, fun _ _ => Ev.congr (fun k => by unfold laws_markText.f; rw [if_neg h1]) hs⟩
    · exact ⟨ByteArray.empty, fun a b => absurd ⟨a, b⟩ h0⟩
  exact ⟨fun n => Classical.choose (h n), fun n => Classical.choose_spec (h n)⟩
theorem ev_mark_loop {α : Type} {L : Nat → List α → Int → Int → Option (Int × List α)} {H : Nat → List α → Int → Int → Option Int} {mk : α → Int → α} {c : Int} (hc : 0 ≤ c)
    (stepL : ∀ (l : List α) (m : Int) (i : Nat) (hi : i < l.length), l.length ≤ 1048576 → 0 ≤ m → m ≤ 900000000 → ∀ r, Ev (fun k => L k (l.set i (mk l[i] m)) (m + c) ((i + 1 : Nat) : Int)) r → Ev (fun k => L k l m (i : Int)) r)
    (stepH : ∀ (l : List α) (m : Int) (i : Nat) (hi : i < l.length) (y : α), l[i] = mk y m → l.length ≤ 1048576 → 0 ≤ m → m ≤ 900000000 → ∀ r, Ev (fun k => H k l (m + c) ((i + 1 : Nat) : Int)) r → Ev (fun k => H k l m (i : Int)) r)
    (doneL : ∀ (l : List α) (m : Int) k, L (k + 1) l m (l.length : Int) = some (m, l)) (doneH : ∀ (l : List α) (m : Int) k, H (k + 1) l m (l.length : Int) = some m)
    (l : List α) (m : Int) (hl : l.length ≤ 1048576) (h0 : 0 ≤ m) (hm : m + c * l.length ≤ 900000000) :
    ∃ l', l'.length = l.length ∧ Ev (fun k => L k l m 0) (m + c * l.length, l') ∧ Ev (fun k => H k l' m 0) (m + c * l.length) := by
  have key : ∀ (d i : Nat) (l : List α) (m : Int), i + d = l.length → l.length ≤ 1048576 → 0 ≤ m → m + c * d ≤ 900000000 →
      ∃ l', l'.length = l.length ∧ l'.take i = l.take i ∧ Ev (fun k => L k l m (i : Int)) (m + c * d, l') ∧ Ev (fun k => H k l' m (i : Int)) (m + c * d) := by
    intro d
    induction d with
    | zero =>
      intro i l m hi hl h0 hm
      obtain rfl : i = l.length := by omega
      refine ⟨l, rfl, rfl, ?_, ?_⟩
      · simp only [Int.natCast_zero, Int.mul_zero, Int.add_zero]
        exact Ev.at_ (c := 1) (doneL l m)
      · simp only [Int.natCast_zero, Int.mul_zero, Int.add_zero]
        exact Ev.at_ (c := 1) (doneH l m)
    | succ d ih =>
      intro i l m hi hl h0 hm
      have hil : i < l.length := by omega
      have e : m + c + c * (d : Int) = m + c * ((d + 1 : Nat) : Int) := by
        rw [Int.natCast_add, Int.natCast_one, Int.mul_add, Int.mul_one]
        omega
      have hcd : 0 ≤ c * (d : Int) := Int.mul_nonneg hc (Int.natCast_nonneg d)
      obtain ⟨l', hl', ht, hL, hH⟩ := ih (i + 1) (l.set i (mk l[i] m)) (m + c) (by rw [List.length_set]; omega) (by rw [List.length_set]; omega) (by omega) (by omega)
      rw [List.length_set] at hl'
      rw [e] at hL hH
      have hg : l'[i]'(by omega) = mk l[i] m := by
        have h1 : (l'.take (i + 1))[i]'(by rw [List.length_take]; omega) = ((l.set i (mk l[i] m)).take (i + 1))[i]'(by rw [List.length_take, List.length_set]; omega) := by simp only [ht]
        simpa using h1
      refine ⟨l', hl', ?_, stepL l m i hil hl h0 (by omega) _ hL, stepH l' m i (by omega) l[i] hg (by omega) h0 (by omega) _ hH⟩
      have h2 := congrArg (List.take i) ht
      rw [List.take_take, List.take_take, Nat.min_eq_left (by omega)] at h2
      rw [h2, List.take_set_of_le (Nat.le_refl _)]
  obtain ⟨l', h1, _, h3, h4⟩ := key l.length 0 l m (by omega) hl h0 hm
  exact ⟨l', h1, h3, h4⟩
end Go.Proofs.YtblejbgkcgajgaaGreat.Q
end

section
namespace Go.Proofs.YtblejbgkcgajgaaGreat.Q
open Go.RowKit Go.Proofs.YtblejbgkcgajgaaGreatW.PrintWords Go.Proofs.YtblejbgkcgajgaaGreatW.PrintLast
set_option linter.unusedVariables false
set_option linter.unusedSimpArgs false
theorem markEditS_ev (l : List S68) (m : Int) (hl : l.length ≤ 1048576) (h0 : 0 ≤ m) (hm : m + 3 * l.length ≤ 900000000) :
    ∃ l', l'.length = l.length ∧ Ev (fun k => laws_markEditS.f k l m) (m + 3 * l.length, l') ∧ Ev (fun k => laws_heldEditS.f k l' m) (m + 3 * l.length) := by
  obtain ⟨mt, hmt⟩ := markTexts
  have rd0 : ∀ (l : List S68) (i : Nat) (h : i < l.length), rd_T68 l (i : Int) = l[i] := fun l i h => by simp [rd_T68, List.getD_eq_getElem?_getD, List.getElem?_eq_getElem h]
  have rd1 : ∀ (l : List S68) (i : Nat) (v : S68) (h : i < l.length), rd_T68 (l.set i v) (i : Int) = v := fun l i v h => by rw [rd0 _ _ (by rw [List.length_set]; exact h)]; simp
  refine ev_mark_loop (L := laws_markEditS.l0) (H := laws_heldEditS.l0) (mk := fun x m => ⟨mt (m), m + 1, (Int.tmod (m + 2) 3 == 0)⟩) (c := 3) (by omega) ?_ ?_ ?_ ?_ l m hl h0 hm
  · intro l m i hi hl h0 hm r hr
    have c1 : (i : Int) < (l.length : Int) := by omega
    have w := wrap_i (show i < 4611686018427387904 by omega)
    have w1 : wrap64 (m + 1) = m + 1 := by unfold wrap64; omega
    have w2 : wrap64 (m + 1 + 1) = m + 2 := by unfold wrap64; omega
    have w3 : wrap64 (m + 2 + 1) = m + 3 := by unfold wrap64; omega
    refine Ev.succ (g := fun k => laws_markEditS.l0 k l m (i : Int)) ?_
    simp only [laws_markEditS.l0, c1, if_true, Int.natCast_nonneg, Option.bind_some, Int.toNat_natCast, rd0 l i hi, rd1 l i _ hi, List.set_set, w, w1, w2, w3]
    refine Ev.bind (hmt (m) (by omega) (by omega)) ?_
    (try simp only [if_true, rd0 l i hi, rd1 l i _ hi, List.set_set, Option.bind_some, w1, w2, w3, bne_self_eq_false, Bool.false_eq_true, if_false])
    exact hr
  · intro l m i hi y hy hl h0 hm r hr
    have c1 : (i : Int) < (l.length : Int) := by omega
    have w := wrap_i (show i < 4611686018427387904 by omega)
    have w1 : wrap64 (m + 1) = m + 1 := by unfold wrap64; omega
    have w2 : wrap64 (m + 1 + 1) = m + 2 := by unfold wrap64; omega
    have w3 : wrap64 (m + 2 + 1) = m + 3 := by unfold wrap64; omega
    refine Ev.succ (g := fun k => laws_heldEditS.l0 k l m (i : Int)) ?_
    simp only [laws_heldEditS.l0, c1, if_true, Int.natCast_nonneg, rd0 l i hi, hy, w, w1, w2, w3, bne_self_eq_false, Bool.false_eq_true, if_false]
    refine Ev.bind (hmt (m) (by omega) (by omega)) ?_
    (try simp only [if_true, rd0 l i hi, rd1 l i _ hi, List.set_set, Option.bind_some, w1, w2, w3, bne_self_eq_false, Bool.false_eq_true, if_false])
    exact hr
  · intro l m k
    simp only [laws_markEditS.l0]
    rw [if_neg (by omega)]
  · intro l m k
    simp only [laws_heldEditS.l0]
    rw [if_neg (by omega)]
end Go.Proofs.YtblejbgkcgajgaaGreat.Q
end

section
namespace Go.Proofs.YtblejbgkcgajgaaGreat.Q
open Go.RowKit Go.Proofs.YtblejbgkcgajgaaGreatW.PrintWords Go.Proofs.YtblejbgkcgajgaaGreatW.PrintLast
set_option linter.unusedVariables false
set_option linter.unusedSimpArgs false
theorem markInt1_ev (l : List Int) (m : Int) (hl : l.length ≤ 1048576) (h0 : 0 ≤ m) (hm : m + 1 * l.length ≤ 900000000) :
    ∃ l', l'.length = l.length ∧ Ev (fun k => laws_markIntS.f k l m) (m + 1 * l.length, l') := by
  suffices h : ∃ l', l'.length = l.length ∧ Ev (fun k => laws_markIntS.f k l m) (m + 1 * l.length, l') ∧ Ev (fun k => some (m + 1 * ((l'.length : Int) - 0))) (m + 1 * l.length) by
    obtain ⟨l', h1, h2, _⟩ := h
    exact ⟨l', h1, h2⟩
  refine ev_mark_loop (L := laws_markIntS.l0) (H := fun _ (l : List Int) m i => some (m + 1 * ((l.length : Int) - i))) (mk := fun x m => m) (c := 1) (by omega) ?_ ?_ ?_ ?_ l m hl h0 hm
  · intro l m i hi hl h0 hm r hr
    have c1 : (i : Int) < (l.length : Int) := by omega
    have w := wrap_i (show i < 4611686018427387904 by omega)
    have w1 : wrap64 (m + 1) = m + 1 := by unfold wrap64; omega
    refine Ev.succ (g := fun k => laws_markIntS.l0 k l m (i : Int)) ?_
    simp only [laws_markIntS.l0, c1, if_true, Int.natCast_nonneg, Int.toNat_natCast, w, w1]
    exact hr
  · intro l m i hi y hy hl h0 hm r hr
    exact Ev.congr (fun k => by congr 1; omega) hr
  · intro l m k
    simp only [laws_markIntS.l0]
    rw [if_neg (by omega)]
  · intro l m k
    congr 1
    omega
end Go.Proofs.YtblejbgkcgajgaaGreat.Q
end

section
namespace Go.Proofs.YtblejbgkcgajgaaGreat.Q
open Go.RowKit Go.Proofs.YtblejbgkcgajgaaGreatW.PrintWords Go.Proofs.YtblejbgkcgajgaaGreatW.PrintLast Go.Proofs.YtblejbgkcgajgaaGreatW.PrintMore
attribute [local go_sem] max2_int min2_int max_two min_two max_three min_three max_four min_four   -- for this text's walks alone
set_option linter.unusedVariables false
set_option linter.unusedSimpArgs false
attribute [local go_sem] bin_leq bin_gtr bin_geq
def laws_heldEntryS.l0 : Nat → List (S84) → Int → Int → Option (Int)
  | 0, _, _, _ => none
  | k + 1, x0, x1, x5 => if x5 < (x0.length : Int) then (if 0 ≤ x5 then ((laws_markText.f k x1).bind fun t655 => (if ((rd_T84 x0 x5).f0).toList = t655.toList then (if ((rd_T84 x0 x5).f1) = (wrap64 (x1 + 1)) then (laws_heldEntryS.l0 k x0 (wrap64 ((wrap64 (x1 + 1)) + 1)) (wrap64 (x5 + 1))) else (some (-1))) else (some (-1)))) else (none)) else (some x1)
def laws_heldEntryS.f (k : Nat) (l0 : List (S84)) (a1 : Int) : Option (Int) := laws_heldEntryS.l0 k l0 a1 0
end Go.Proofs.YtblejbgkcgajgaaGreat.Q
end

section
namespace Go.Proofs.YtblejbgkcgajgaaGreat.Q
open Go.RowKit Go.Proofs.YtblejbgkcgajgaaGreatW.PrintWords Go.Proofs.YtblejbgkcgajgaaGreatW.PrintLast
set_option linter.unusedVariables false
set_option linter.unusedSimpArgs false
theorem markEntryS_ev (l : List S84) (m : Int) (hl : l.length ≤ 1048576) (h0 : 0 ≤ m) (hm : m + 2 * l.length ≤ 900000000) :
    ∃ l', l'.length = l.length ∧ Ev (fun k => laws_markEntryS.f k l m) (m + 2 * l.length, l') ∧ Ev (fun k => laws_heldEntryS.f k l' m) (m + 2 * l.length) := by
  obtain ⟨mt, hmt⟩ := markTexts
  have rd0 : ∀ (l : List S84) (i : Nat) (h : i < l.length), rd_T84 l (i : Int) = l[i] := fun l i h => by simp [rd_T84, List.getD_eq_getElem?_getD, List.getElem?_eq_getElem h]
  have rd1 : ∀ (l : List S84) (i : Nat) (v : S84) (h : i < l.length), rd_T84 (l.set i v) (i : Int) = v := fun l i v h => by rw [rd0 _ _ (by rw [List.length_set]; exact h)]; simp
  refine ev_mark_loop (L := laws_markEntryS.l0) (H := laws_heldEntryS.l0) (mk := fun x m => ⟨mt (m), m + 1⟩) (c := 2) (by omega) ?_ ?_ ?_ ?_ l m hl h0 hm
  · intro l m i hi hl h0 hm r hr
    have c1 : (i : Int) < (l.length : Int) := by omega
    have w := wrap_i (show i < 4611686018427387904 by omega)
    have w1 : wrap64 (m + 1) = m + 1 := by unfold wrap64; omega
    have w2 : wrap64 (m + 1 + 1) = m + 2 := by unfold wrap64; omega
    refine Ev.succ (g := fun k => laws_markEntryS.l0 k l m (i : Int)) ?_
    simp only [laws_markEntryS.l0, c1, if_true, Int.natCast_nonneg, Option.bind_some, Int.toNat_natCast, rd0 l i hi, rd1 l i _ hi, List.set_set, w, w1, w2]
    refine Ev.bind (hmt (m) (by omega) (by omega)) ?_
    (try simp only [if_true, rd0 l i hi, rd1 l i _ hi, List.set_set, Option.bind_some, w1, w2, bne_self_eq_false, Bool.false_eq_true, if_false])
    exact hr
  · intro l m i hi y hy hl h0 hm r hr
    have c1 : (i : Int) < (l.length : Int) := by omega
    have w := wrap_i (show i < 4611686018427387904 by omega)
    have w1 : wrap64 (m + 1) = m + 1 := by unfold wrap64; omega
    have w2 : wrap64 (m + 1 + 1) = m + 2 := by unfold wrap64; omega
    refine Ev.succ (g := fun k => laws_heldEntryS.l0 k l m (i : Int)) ?_
    simp only [laws_heldEntryS.l0, c1, if_true, Int.natCast_nonneg, rd0 l i hi, hy, w, w1, w2, bne_self_eq_false, Bool.false_eq_true, if_false]
    refine Ev.bind (hmt (m) (by omega) (by omega)) ?_
    (try simp only [if_true, rd0 l i hi, rd1 l i _ hi, List.set_set, Option.bind_some, w1, w2, bne_self_eq_false, Bool.false_eq_true, if_false])
    exact hr
  · intro l m k
    simp only [laws_markEntryS.l0]
    rw [if_neg (by omega)]
  · intro l m k
    simp only [laws_heldEntryS.l0]
    rw [if_neg (by omega)]
end Go.Proofs.YtblejbgkcgajgaaGreat.Q
end

section
namespace Go.Proofs.YtblejbgkcgajgaaGreat.Q
open Go.RowKit Go.Proofs.YtblejbgkcgajgaaGreatW.PrintWords Go.Proofs.YtblejbgkcgajgaaGreatW.PrintLast
set_option linter.unusedVariables false
set_option linter.unusedSimpArgs false
def wC (x : S64) : Nat := x.f0.length + 2 * x.f1.length
def wCs (l : List S64) : Nat := (l.map wC).sum
theorem markCommitS_ev : ∀ (l : List S64) (m : Int), (∀ x, x ∈ l → x.f0.length ≤ 1048576 ∧ x.f1.length ≤ 1048576) → 0 ≤ m → m + wCs l ≤ 900000000 → Ev (fun k => laws_markCommitS.f k l m) (m + wCs l)
  | [], m, _, _, _ => by
    have e : m + (wCs [] : Int) = m := by simp [wCs]
    rw [e]
    exact Ev.at_ (c := 0) (fun k => rfl)
  | x :: l, m, hf, h0, hm => by
    have e : wCs (x :: l) = wC x + wCs l := by simp [wCs]
    have hx := hf x List.mem_cons_self
    rw [e] at hm ⊢
    unfold wC at hm
    obtain ⟨l1, _, h1⟩ := markInt1_ev x.f0 m hx.1 h0 (by omega)
    obtain ⟨l2, _, h2, _⟩ := markEntryS_ev x.f1 (m + 1 * x.f0.length) hx.2 (by omega) (by omega)
    have ih := markCommitS_ev l (m + 1 * x.f0.length + 2 * x.f1.length) (fun y hy => hf y (List.mem_cons_of_mem _ hy)) (by omega) (by omega)
    have e2 : m + 1 * (x.f0.length : Int) + 2 * (x.f1.length : Int) + (wCs l : Int) = m + ((wC x + wCs l : Nat) : Int) := by unfold wC; omega
    rw [e2] at ih
    exact Ev.bind h1 (Ev.bind h2 ih)
theorem Ev.uniq {α : Type} {g : Nat → Option α} {r s : α} (h : Ev g r) (k : Ev g s) : r = s := by
  obtain ⟨K, h⟩ := h
  obtain ⟨M, k⟩ := k
  have h1 := h (K + M) (by omega)
  rw [k (K + M) (by omega)] at h1
  exact (Option.some.inj h1).symm
theorem szEntryS_w (l : List S127) (hl : l.length ≤ 9223372036854775807) (hg : ∀ x, x ∈ l → good127 x) (left r : Int) (h0 : 0 ≤ left) (h1 : left ≤ 1048576) (h : Ev (fun k => laws_szEntryS.f k l left) r) (hr : 0 ≤ r) : r ≤ left - (l.length : Int) := by
  have hw : wrap64 (left - (l.length : Int)) = left - (l.length : Int) := by unfold wrap64; omega
  by_cases hn : left - (l.length : Int) < 0
  · have h2 : Ev (fun k => laws_szEntryS.f k l left) (-1) := Ev.congr (f := fun _ => some (-1)) (fun k => by unfold laws_szEntryS.f; rw [hw, if_pos hn]) (Ev.now _)
    have := Ev.uniq h h2
    omega
  · obtain ⟨r2, hr2, hrl⟩ := ev_sz_loop (L := laws_szEntryS.l0) (g := fun _ x left => laws_szEntry.f x.f0 x.f1 left) (z := z127) (fun _ _ _ _ => rfl) l (by omega) (fun x hx left h0 h1 => by
      have hsz : x.f0.size ≤ 9223372036854775807 := (hg x hx).1
      have hw2 : wrap64 (left - (x.f0.size : Int)) = left - (x.f0.size : Int) := by unfold wrap64; omega
      by_cases h2 : left - (x.f0.size : Int) < 0
      · refine ⟨-1, Ev.congr (f := fun _ => some (-1)) (fun k => ?_) (Ev.now _), by omega⟩
        unfold laws_szEntry.f
        rw [hw2, if_pos h2]
      · refine ⟨left - (x.f0.size : Int), Ev.congr (f := fun _ => some (left - (x.f0.size : Int))) (fun k => ?_) (Ev.now _), by omega⟩
        unfold laws_szEntry.f
        rw [hw2, if_neg h2]) (left - (l.length : Int)) (by omega) (by omega)
    have h2 : Ev (fun k => laws_szEntryS.f k l left) r2 := Ev.congr (f := fun k => laws_szEntryS.l0 k l (left - (l.length : Int)) 0) (fun k => by unfold laws_szEntryS.f; rw [hw, if_neg hn]) hr2
    have := Ev.uniq h h2
    omega
theorem szCommit_w (x : S75) (g : good75 x) (left r : Int) (h0 : 0 ≤ left) (h1 : left ≤ 1048576) (h : Ev (fun k => laws_szCommit.f k x.f0 x.f1 left) r) (hr : 0 ≤ r) : r ≤ left - (x.f0.length + x.f1.length : Nat) := by
  have hw : wrap64 (left - (x.f0.length : Int)) = left - (x.f0.length : Int) := by
    have := g.1.1
    unfold wrap64; omega
  by_cases hn : left - (x.f0.length : Int) < 0
  · have e : laws_szIntS.f x.f0 left = some (-1) := by unfold laws_szIntS.f; rw [hw, if_pos hn]
    have h2 : Ev (fun k => laws_szCommit.f k x.f0 x.f1 left) (-1) := by
      unfold laws_szCommit.f
      simp only [e, Option.bind_some, show ((-1 : Int) < 0) = True by simp, if_true]
      exact Ev.now _
    have := Ev.uniq h h2
    omega
  · have e : laws_szIntS.f x.f0 left = some (left - (x.f0.length : Int)) := by unfold laws_szIntS.f; rw [hw, if_neg hn]
    obtain ⟨r2, hr2, hrl2, _⟩ := szEntryS_ev x.f1 g.2.1 g.2.2 (left - (x.f0.length : Int)) (by omega) (by omega)
    have h2 : Ev (fun k => laws_szCommit.f k x.f0 x.f1 left) (if r2 < 0 then -1 else r2) := by
      unfold laws_szCommit.f
      simp only [e, Option.bind_some, hn, if_false]
      refine Ev.bind hr2 ?_
      by_cases h3 : r2 < 0
      · simp only [h3, if_true]; exact Ev.now _
      · simp only [h3, if_false]; exact Ev.now _
    have h3 := Ev.uniq h h2
    by_cases h4 : r2 < 0
    · rw [if_pos h4] at h3
      omega
    · rw [if_neg h4] at h3
      have := szEntryS_w x.f1 g.2.1 g.2.2 _ r2 (by omega) (by omega) hr2 (by omega)
      omega
def lC (x : S75) : Nat := x.f0.length + x.f1.length
theorem szCommitS_l0 (xs : List S75) (hlen : xs.length ≤ 4611686018427387904) (hg : ∀ x, x ∈ xs → good75 x) : ∀ (d i : Nat) (left r : Int), i + d = xs.length → 0 ≤ left → left ≤ 1048576 → Ev (fun k => laws_szCommitS.l0 k xs left (i : Int)) r → 0 ≤ r → r ≤ left - (((xs.drop i).map lC).sum : Nat) := by
  intro d
  induction d with
  | zero =>
    intro i left r hi h0 h1 h hr
    have h2 : Ev (fun k => laws_szCommitS.l0 k xs left (i : Int)) left := Ev.at_ (c := 1) (fun k => by simp only [laws_szCommitS.l0]; rw [if_neg (by omega)])
    have := Ev.uniq h h2
    rw [List.drop_eq_nil_of_le (by omega)]
    simp
    omega
  | succ d ih =>
    intro i left r hi h0 h1 h hr
    have hl : i < xs.length := by omega
    have hw : wrap64 ((i : Int) + 1) = ((i + 1 : Nat) : Int) := by unfold wrap64; omega
    have c1 : (i : Int) < (xs.length : Int) := by omega
    have hx : rd_T75 xs (i : Int) = xs[i] := by simp [rd_T75, List.getD_eq_getElem?_getD, List.getElem?_eq_getElem hl]
    obtain ⟨t, ht, htl, _⟩ := szCommit_ev xs[i] (hg _ (List.getElem_mem hl)) left h0 h1
    have step : ∀ q, Ev (fun k => if t < 0 then some (-1) else laws_szCommitS.l0 k xs t ((i + 1 : Nat) : Int)) q → Ev (fun k => laws_szCommitS.l0 k xs left (i : Int)) q := by
      intro q hq
      refine Ev.succ (g := fun k => laws_szCommitS.l0 k xs left (i : Int)) ?_
      simp only [laws_szCommitS.l0, c1, Int.natCast_nonneg, if_true, hx, hw]
      exact Ev.bind ht hq
    by_cases hn : t < 0
    · have h2 := step (-1) (by simp only [hn, if_true]; exact Ev.now _)
      have := Ev.uniq h h2
      omega
    · have h3 := szCommit_w xs[i] (hg _ (List.getElem_mem hl)) left t h0 h1 ht (by omega)
      obtain ⟨q, hq⟩ : ∃ q, Ev (fun k => laws_szCommitS.l0 k xs t ((i + 1 : Nat) : Int)) q := by
        obtain ⟨K, hK⟩ := h
        obtain ⟨M, hM⟩ := ht
        refine ⟨r, K + M, fun n hn2 => ?_⟩
        have h5 := hK (n + 1) (by omega)
        have h6 : laws_szCommit.f n xs[i].f0 xs[i].f1 left = some t := hM n (by omega)
        simp only [laws_szCommitS.l0, c1, Int.natCast_nonneg, if_true, hx, hw] at h5
        rw [h6] at h5
        simp only [Option.bind_some, hn, if_false] at h5
        exact h5
      have h2 := step q (by simp only [hn, if_false]; exact hq)
      obtain rfl := Ev.uniq h h2
      have h4 := ih (i + 1) t r (by omega) (by omega) (by omega) hq hr
      rw [List.drop_eq_getElem_cons hl, List.map_cons, List.sum_cons]
      unfold lC at h4 ⊢
      omega
theorem szCommitS_w (l : List S75) (hl : l.length ≤ 9223372036854775807) (hg : ∀ x, x ∈ l → good75 x) (left r : Int) (h0 : 0 ≤ left) (h1 : left ≤ 1048576) (h : Ev (fun k => laws_szCommitS.f k l left) r) (hr : 0 ≤ r) : (l.map lC).sum ≤ 1048576 := by
  have hw : wrap64 (left - (l.length : Int)) = left - (l.length : Int) := by unfold wrap64; omega
  by_cases hn : left - (l.length : Int) < 0
  · have h2 : Ev (fun k => laws_szCommitS.f k l left) (-1) := Ev.congr (f := fun _ => some (-1)) (fun k => by unfold laws_szCommitS.f; rw [hw, if_pos hn]) (Ev.now _)
    have := Ev.uniq h h2
    omega
  · have h2 : Ev (fun k => laws_szCommitS.l0 k l (left - (l.length : Int)) ((0 : Nat) : Int)) r := Ev.congr (f := fun k => laws_szCommitS.f k l left) (fun k => by unfold laws_szCommitS.f; rw [hw, if_neg hn]; rfl) h
    have h3 := szCommitS_l0 l (by omega) hg l.length 0 (left - (l.length : Int)) r (by omega) (by omega) (by omega) h2 hr
    rw [List.drop_zero] at h3
    omega
theorem wCs_le (l : List S75) : wCs (l.map cvCommit) ≤ 2 * (l.map lC).sum := by
  unfold wCs
  induction l with
  | nil => simp
  | cons x l ih =>
    have e : wC (cvCommit x) ≤ 2 * lC x := by
      unfold wC lC cvCommit
      simp only [List.length_map]
      omega
    simp only [List.map_cons, List.sum_cons] at ih ⊢
    omega
end Go.Proofs.YtblejbgkcgajgaaGreat.Q
end

section
namespace Go.Proofs.YtblejbgkcgajgaaGreat.Q
open Go.RowKit Go.Proofs.YtblejbgkcgajgaaGreatW.PrintWords Go.Proofs.YtblejbgkcgajgaaGreatW.PrintLast
set_option linter.unusedVariables false
set_option linter.unusedSimpArgs false
theorem markRef1_ev (l : List S92) (m : Int) (hl : l.length ≤ 1048576) (h0 : 0 ≤ m) (hm : m + 4 * l.length ≤ 900000000) :
    ∃ l', l'.length = l.length ∧ Ev (fun k => laws_markRefS.f k l m) (m + 4 * l.length, l') := by
  suffices h : ∃ l', l'.length = l.length ∧ Ev (fun k => laws_markRefS.f k l m) (m + 4 * l.length, l') ∧ Ev (fun k => some (m + 4 * ((l'.length : Int) - 0))) (m + 4 * l.length) by
    obtain ⟨l', h1, h2, _⟩ := h
    exact ⟨l', h1, h2⟩
  obtain ⟨mt, hmt⟩ := markTexts
  have rd0 : ∀ (l : List S92) (i : Nat) (h : i < l.length), rd_T92 l (i : Int) = l[i] := fun l i h => by simp [rd_T92, List.getD_eq_getElem?_getD, List.getElem?_eq_getElem h]
  have rd1 : ∀ (l : List S92) (i : Nat) (v : S92) (h : i < l.length), rd_T92 (l.set i v) (i : Int) = v := fun l i v h => by rw [rd0 _ _ (by rw [List.length_set]; exact h)]; simp
  refine ev_mark_loop (L := laws_markRefS.l0) (H := fun _ (l : List S92) m i => some (m + 4 * ((l.length : Int) - i))) (mk := fun x m => ⟨mt (m), m + 1, m + 2, (Int.tmod (m + 3) 3 == 0)⟩) (c := 4) (by omega) ?_ ?_ ?_ ?_ l m hl h0 hm
  · intro l m i hi hl h0 hm r hr
    have c1 : (i : Int) < (l.length : Int) := by omega
    have w := wrap_i (show i < 4611686018427387904 by omega)
    have w1 : wrap64 (m + 1) = m + 1 := by unfold wrap64; omega
    have w2 : wrap64 (m + 1 + 1) = m + 2 := by unfold wrap64; omega
    have w3 : wrap64 (m + 2 + 1) = m + 3 := by unfold wrap64; omega
    have w4 : wrap64 (m + 3 + 1) = m + 4 := by unfold wrap64; omega
    refine Ev.succ (g := fun k => laws_markRefS.l0 k l m (i : Int)) ?_
    simp only [laws_markRefS.l0, c1, if_true, Int.natCast_nonneg, Option.bind_some, Int.toNat_natCast, rd0 l i hi, rd1 l i _ hi, List.set_set, w, w1, w2, w3, w4]
    refine Ev.bind (hmt (m) (by omega) (by omega)) ?_
    (try simp only [if_true, rd0 l i hi, rd1 l i _ hi, List.set_set, Option.bind_some, w1, w2, w3, w4, bne_self_eq_false, Bool.false_eq_true, if_false])
    exact hr
  · intro l m i hi y hy hl h0 hm r hr
    exact Ev.congr (fun k => by congr 1; omega) hr
  · intro l m k
    simp only [laws_markRefS.l0]
    rw [if_neg (by omega)]
  · intro l m k
    congr 1
    omega
end Go.Proofs.YtblejbgkcgajgaaGreat.Q
end

section
namespace Go.Proofs.YtblejbgkcgajgaaGreat.Q
open Go.RowKit Go.Proofs.YtblejbgkcgajgaaGreatW.PrintWords Go.Proofs.YtblejbgkcgajgaaGreatW.PrintLast
set_option linter.unusedVariables false
set_option linter.unusedSimpArgs false
theorem szBase_w (a : List S75) (b : List S89) (ha : a.length ≤ 9223372036854775807 ∧ ∀ x, x ∈ a → good75 x) (left r : Int) (h0 : 0 ≤ left) (h1 : left ≤ 1048576) (h : Ev (fun k => laws_szBase.f k a b left) r) (hr : 0 ≤ r) : (a.map lC).sum ≤ 1048576 := by
  obtain ⟨r1, e1, _, _⟩ := szCommitS_ev a ha.1 ha.2 left h0 h1
  by_cases hn : r1 < 0
  · have h2 : Ev (fun k => laws_szBase.f k a b left) (-1) := by
      unfold laws_szBase.f
      exact Ev.bind e1 (by simp only [hn, if_true]; exact Ev.now _)
    have := Ev.uniq h h2
    omega
  · exact szCommitS_w a ha.1 ha.2 left r1 h0 h1 e1 (by omega)
theorem markBase_ev (a : List S75) (b : List S92) (hf : ∀ x, x ∈ a.map cvCommit → x.f0.length ≤ 1048576 ∧ x.f1.length ≤ 1048576) (hs : (a.map lC).sum ≤ 1048576) (hb : b.length ≤ 1048576) : ∃ r, Ev (fun k => laws_markBase.f k (a.map cvCommit) b 1) r ∧ 0 ≤ r := by
  have hw := wCs_le a
  obtain ⟨l', _, h2⟩ := markRef1_ev b (1 + wCs (a.map cvCommit)) hb (by omega) (by omega)
  refine ⟨1 + wCs (a.map cvCommit) + 4 * b.length, ?_, by omega⟩
  unfold laws_markBase.f
  exact Ev.bind (markCommitS_ev (a.map cvCommit) 1 hf (by omega) (by omega)) (Ev.bind h2 (Ev.now _))
end Go.Proofs.YtblejbgkcgajgaaGreat.Q
end

section
namespace Go.Proofs.YtblejbgkcgajgaaGreat.Pure
open Go.RowKit Go.Proofs.YtblejbgkcgajgaaGreat.Q Go.Proofs.YtblejbgkcgajgaaGreatW.PrintWords Go.Proofs.YtblejbgkcgajgaaGreatW.PrintLast
set_option linter.unusedVariables false
set_option linter.unusedSimpArgs false
theorem snap_at2 {c : Int} {n : Nat} (h : inB c 1 n = true) (hn : n ≤ 1048576) : ∃ i, i < n ∧ wrap64 (c - 1) = (i : Int) := by
  unfold inB at h
  simp only [Bool.and_eq_true, decide_eq_true_eq] at h
  refine ⟨(c - 1).toNat, by omega, ?_⟩
  unfold wrap64
  omega
theorem map_of_base {st : List S64} {rf : List S92} (h : baseB st rf = true) {i : Nat} (hi : i < st.length) : mapB st[i].f1 = true := by
  unfold baseB at h
  simp only [Bool.and_eq_true] at h
  have h2 := h.1
  unfold storeB at h2
  simp only [Bool.and_eq_true, allR_iff] at h2
  have h3 := h2.2 i hi
  rw [rdCommit hi] at h3
  unfold commitB at h3
  rw [Bool.and_eq_true] at h3
  exact h3.1
theorem diffSnaps_both (st : List S64) (rf : List S92) (n : ByteArray) (c : Int) (n2 : ByteArray) (c2 : Int) (hs : st.length ≤ 1048576) (hf : ∀ x, x ∈ st → x.f0.length ≤ 1048576 ∧ x.f1.length ≤ 1048576) :
    ∃ res code, Ev (fun k => spec_DiffSnaps.f k st rf n c n2 c2) (res, code) ∧ Ev (fun k => impl_DiffSnaps.f k st rf n c n2 c2) (res, code) ∧ res.length ≤ 1048576 := by
  have hB := l05OK_ev st rf
  have hT := l10Snap_ev st rf n c
  have hT2 := l10Snap_ev st rf n2 c2
  have hN := snapOK_impl st rf n c hs (fun x hx => (hf x hx).2)
  have hN2 := snapOK_impl st rf n2 c2 hs (fun x hx => (hf x hx).2)
  unfold snapB at hN hN2
  unfold spec_DiffSnaps.f impl_DiffSnaps.f
  cases hb2 : baseB st rf with
  | false =>
    rw [hb2] at hB hN
    refine ⟨[], 1, Ev.bind hB ?_, Ev.bind hN ?_, by simp⟩
    · simp only [Bool.false_eq_true, if_false]
      exact Ev.now _
    · simp only [Bool.false_and, Bool.false_eq_true, if_false]
      exact Ev.now _
  | true =>
    rw [hb2] at hB hN hN2
    cases hc : (nameB n && inB c 1 st.length) with
    | false =>
      rw [hc] at hT hN
      refine ⟨[], 1, Ev.bind hB ?_, Ev.bind hN ?_, by simp⟩
      · simp only [if_true]
        exact Ev.bind hT (by simp only [Bool.false_eq_true, if_false]; exact Ev.now _)
      · simp only [Bool.true_and, Bool.false_eq_true, if_false]
        exact Ev.now _
    | true =>
      rw [hc] at hT hN
      cases hd : (nameB n2 && inB c2 1 st.length) with
      | false =>
        rw [hd] at hT2 hN2
        refine ⟨[], 1, Ev.bind hB ?_, Ev.bind hN ?_, by simp⟩
        · simp only [if_true]
          refine Ev.bind hT ?_
          simp only [if_true]
          exact Ev.bind hT2 (by simp only [Bool.false_eq_true, if_false]; exact Ev.now _)
        · simp only [Bool.and_self, if_true]
          exact Ev.bind hN2 (by simp only [Bool.true_and, Bool.false_eq_true, if_false]; exact Ev.now _)
      | true =>
        rw [hd] at hT2 hN2
        have hin : inB c 1 st.length = true := by simp only [Bool.and_eq_true] at hc; exact hc.2
        have hin2 : inB c2 1 st.length = true := by simp only [Bool.and_eq_true] at hd; exact hd.2
        obtain ⟨i, hi, hw⟩ := snap_at2 hin hs
        obtain ⟨j, hj, hw2⟩ := snap_at2 hin2 hs
        have c1 : (i : Int) < (st.length : Int) := by omega
        have d1 : (j : Int) < (st.length : Int) := by omega
        have e1 : rd_T64 st (i : Int) = st[i] := rdCommit hi
        have e2 : rd_T64 st (j : Int) = st[j] := rdCommit hj
        have m1 := map_of_base hb2 hi
        have m2 := map_of_base hb2 hj
        have l1 := mapB_len m1
        have l2 := mapB_len m2
        have g1 := l01Diff_ev st[i].f1 st[j].f1 (by omega) (by omega)
        have g2 := diff_ev st[i].f1 st[j].f1 (mapB_rise m1) (mapB_rise m2) (by omega) (by omega)
        have g3 := diffM_len st[i].f1 st[j].f1
        refine ⟨diffM st[i].f1 st[j].f1, 0, Ev.bind hB ?_, Ev.bind hN ?_, by omega⟩
        · simp only [if_true]
          refine Ev.bind hT ?_
          simp only [if_true]
          refine Ev.bind hT2 ?_
          simp only [if_true, hw, hw2, Int.natCast_nonneg, c1, d1, e1, e2]
          exact Ev.bind g1 (Ev.now _)
        · simp only [Bool.and_self, if_true]
          refine Ev.bind hN2 ?_
          simp only [Bool.and_self, if_true, hw, hw2, Int.natCast_nonneg, c1, d1, e1, e2]
          exact Ev.bind g2 (Ev.now _)
theorem FnExactDiffSnaps : laws_FnExactDiffSnaps.Pure := by
  intro l0 l1 a0 a1 a2 a3 w0 w1 w2
  refine Ev.rounds ?_
  unfold laws_FnExactDiffSnaps.f
  obtain ⟨r, hr, hrl, hrs⟩ := szBase_ev l0 l1 w0.1 w0.2 1048576 (by omega) (by omega)
  have hsum := fun h => szBase_w l0 l1 w0.1 1048576 r (by omega) (by omega) hr h
  refine Ev.bind hr ?_
  by_cases hn : r < 0
  · simp only [hn, if_true]
    exact Ev.now _
  simp only [hn, if_false]
  obtain ⟨⟨hl, hf⟩, hb⟩ := hrs (by omega)
  obtain ⟨r2, hr2⟩ := szSnap_is a0 a1 r
  simp only [hr2, Option.bind_some]
  by_cases hn2 : r2 < 0
  · simp only [hn2, if_true]
    exact Ev.now _
  simp only [hn2, if_false]
  obtain ⟨r3, hr3⟩ := szSnap_is a2 a3 r2
  simp only [hr3, Option.bind_some]
  by_cases hn3 : r3 < 0
  · simp only [hn3, if_true]
    exact Ev.now _
  simp only [hn3, if_false]
  have ht := toBase_ev l0 l1 hl hf hb
  have hf2 := fit_cv hf
  have hl2 : (l0.map cvCommit).length ≤ 1048576 := by simpa using hl
  have hb2 : (l1.map cvRef).length ≤ 1048576 := by simpa using hb
  obtain ⟨res, code, hs, hi, hres⟩ := diffSnaps_both (l0.map cvCommit) (l1.map cvRef) a0 a1 a2 a3 hl2 hf2
  refine Ev.bind ht ?_
  simp only [laws_toSnap.f, Option.bind_some]
  refine Ev.bind hs (Ev.bind ht (Ev.bind hi (Ev.bind (eqEditS_ev res hres) ?_)))
  simp only [if_true, bne_self_eq_false]
  refine Ev.succ ?_
  simp only [laws_FnExactDiffSnaps.j0, Bool.false_eq_true, if_false]
  refine Ev.bind ht (Ev.bind (eqBase_ev _ _ hl2 hf2 hb2) ?_)
  simp only [if_true]
  obtain ⟨q, hq, hq0⟩ := markBase_ev l0 (l1.map cvRef) hf2 (hsum (by omega)) hb2
  refine Ev.bind hq ?_
  have n1 : ¬ (q < 0) := by omega
  simp only [n1, if_false]
  refine Ev.bind (eqEditS_ev res hres) ?_
  simp only [if_true, bne_self_eq_false]
  refine Ev.succ ?_
  simp only [laws_FnExactDiffSnaps.j1, Bool.false_eq_true, if_false]
  obtain ⟨lr, _, hmR, hhR⟩ := markEditS_ev res 1 hres (by omega) (by omega)
  have n2 : ¬ (1 + 3 * (res.length : Int) < 0) := by omega
  refine Ev.bind hmR (Ev.bind hhR ?_)
  simp only [n2, if_false, if_true]
  refine Ev.bind ht ?_
  simp only [laws_toSnap.f, Option.bind_some]
  refine Ev.bind hi (Ev.bind (eqEditS_ev res hres) ?_)
  simp only [if_true, bne_self_eq_false]
  refine Ev.succ ?_
  simp only [laws_FnExactDiffSnaps.j2, Bool.false_eq_true, if_false]
  refine Ev.bind hhR ?_
  simp only [n2, if_false, if_true]
  exact Ev.now _
end Go.Proofs.YtblejbgkcgajgaaGreat.Pure
end
