/- Parts of the proof of the law FnExactGrowsFrom, joined into one text. -/
import Derived.Test.YtcpljigliklgcaaMFnExactGrowsFrom5
section
namespace Go.Proofs.Ytcpljigliklgcaa.Q
open Go.RowKit Go.Proofs.YtcpljigliklgcaaW.PrintWords Go.Proofs.YtcpljigliklgcaaW.PrintLast Go.Proofs.YtcpljigliklgcaaW.PrintMore
attribute [local go_sem] max2_int min2_int max_two min_two max_three min_three max_four min_four   -- for this text's walks alone
set_option linter.unusedVariables false
set_option linter.unusedSimpArgs false
attribute [local go_sem] bin_leq bin_gtr bin_geq
def Asks2_Commit (g : Nat) (lb : Array Value) (p : S118 → S118 → Bool) (w : World) (l0 l1 : List S118) : Prop :=
  ∀ (W : World) (x y : S118) (A0 A1 A2 A3 : Option Addr) (c0 c1 c2 c3 : Nat), Below w.heap.size w W → x ∈ l0 → y ∈ l1 →
    x.f0.length ≤ c0 → Kd.C (Kd.int .i64) W A0 x.f0.length x.f0 → x.f1.length ≤ c1 → Kd.C k51 W A1 x.f1.length x.f1 → y.f0.length ≤ c2 → Kd.C (Kd.int .i64) W A2 y.f0.length y.f0 → y.f1.length ≤ c3 → Kd.C k51 W A3 y.f1.length y.f1 →
    Calls Try.prog g (#[.agg #[.slice A0 x.f0.length c0, .slice A1 x.f1.length c1], .agg #[.slice A2 y.f0.length c2, .slice A3 y.f1.length c3]] ++ lb) W fun e w' => e = .returned (.bool (p x y)) ∧ Below W.heap.size W w'
set_option maxHeartbeats 8000000 in
set_option maxRecDepth 100000 in
theorem eqF_Commit (g : Nat) (lb : Array Value) (eg : ∀ args w, (callFunc g args).run Try.prog w = .ok (.enter g args) w) (p : S118 → S118 → Bool) (A0 : Option Addr) (c0 : Nat) (l0 : List S118) (A1 : Option Addr) (c1 : Nat) (l1 : List S118) (w : World) (hr0 : Kd.C k118 w A0 l0.length l0) (hc0 : l0.length ≤ c0) (hr1 : Kd.C k118 w A1 l1.length l1) (hc1 : l1.length ≤ c1) (hp : Asks2_Commit g lb p w l0 l1) :
    Calls Try.prog 192 #[.slice A0 l0.length c0, .slice A1 l1.length c1, .func (.func g) #[] lb] w fun e w' => e = .returned (.bool (eqL p l0 l1)) ∧ Below w.heap.size w w' := by
  have HM : l0.length ≤ 9223372036854775807 := hr0.2.1
  have HR0 := Aside0.mk hr0
  have HR1 := Aside0.mk hr1
  have HP := Aside0.mk hp
  clear hr0 hc0 hr1 hc1 hp
  by_cases hl : l0.length = l1.length
  · have HL := Aside0.mk hl
    have c3b0 : ((l0.length : Int) == (l1.length : Int)) = true := by rw [hl]; simp
    have c3b1 : ((l0.length : Int) != (l1.length : Int)) = false := by rw [hl]; simp
    have c3b2 : (l0.length == l1.length) = true := by rw [hl]; simp
    have c3b3 : (l0.length != l1.length) = false := by rw [hl]; simp
    clear hl
    go_enter Try.func192, Try.ntmps192
    go_wp2
    go_loopg [17] l0.length (fun gk v17 w' => ∃ kk : Nat, kk ≤ l0.length ∧ l0.length - kk ≤ gk ∧ v17 = .int .i64 kk ∧ Aside0 (∀ j (h1 : j < l0.length) (h2 : j < l1.length), j < kk → p l0[j] l1[j] = true) ∧ Aside0 (Below w.heap.size w w'))
    case atStart => exact ⟨0, Nat.zero_le _, by omega, rfl, ⟨fun j h1 h2 h => absurd h (Nat.not_lt_zero _)⟩, ⟨Below.refl _ _⟩⟩
    case round =>
      obtain ⟨kk, hkk, hg, rfl, HA, HB⟩ := hrel
      by_cases hlt : kk < l0.length
      · have hltz : (kk : Int) < (l0.length : Int) := by omega
        have hlt2 : kk < l1.length := by have := HL.out; omega
        have hltz2 : (kk : Int) < (l1.length : Int) := by omega
        obtain ⟨ad, A5, c5, A6, c6, e1, hx0, hx1, hl5, hi5, hl6, hi6⟩ := at_T118 HR0.out (kk : Int) (by omega) hltz
        cases e1
        obtain ⟨ad2, B5, d5, B6, d6, e2, hy0, hy1, ml5, mi5, ml6, mi6⟩ := at_T118 HR1.out (kk : Int) (by omega) hltz2
        cases e2
        have ex : rd_T118 l0 (kk : Int) = l0[kk] := by simp [rd_T118, List.getD_eq_getElem?_getD, List.getElem?_eq_getElem hlt]
        have ey : rd_T118 l1 (kk : Int) = l1[kk] := by simp [rd_T118, List.getD_eq_getElem?_getD, List.getElem?_eq_getElem hlt2]
        rw [ex] at hx0 hx1 hl5 hi5 hl6 hi6
        rw [ey] at hy0 hy1 ml5 mi5 ml6 mi6
        rw [Int.toNat_natCast] at hy0 hy1
        have HBL := Aside0.mk (World.block_lt_of_cell? w _ hy0)
        have HBM := Aside0.mk (World.block_lt_of_cell? w _ hy1)
        replace hx0 := (HB.out.cell (World.block_lt_of_cell? w _ hx0)).trans hx0
        replace hx1 := (HB.out.cell (World.block_lt_of_cell? w _ hx1)).trans hx1
        replace hy0 := (HB.out.cell (World.block_lt_of_cell? w _ hy0)).trans hy0
        replace hy1 := (HB.out.cell (World.block_lt_of_cell? w _ hy1)).trans hy1
        simp only [Int.toNat_natCast] at hx0 hx1
        have hcall := fun (W : World) (hW : Below w.heap.size w W) => HP.out W l0[kk] l1[kk] A5 A6 B5 B6 c5 c6 d5 d6 hW (List.getElem_mem hlt) (List.getElem_mem hlt2) hl5 (Kd.C_below hi5 hW) hl6 (Kd.C_below hi6 hW) ml5 (Kd.C_below mi5 hW) ml6 (Kd.C_below mi6 hW)
        clear hl5 hi5 hl6 hi6 ml5 mi5 ml6 mi6
        obtain ⟨y, hy⟩ : ∃ y, y = l0[kk] := ⟨_, rfl⟩
        obtain ⟨z, hz⟩ : ∃ z, z = l1[kk] := ⟨_, rfl⟩
        rw [← hy] at hx0 hx1
        rw [← hz] at hy0 hy1
        have hbw0 := Nat.lt_of_lt_of_le HBL.out HB.out.size
        have hbw1 := Nat.lt_of_lt_of_le HBM.out HB.out.size
        have hyc0 := ((below_alloc (Below.refl _ _) (.cells #[.slice A5 y.f0.length c5, .slice A6 y.f1.length c6] 118)).cell hbw0).trans hy0
        have hyc1 := ((below_alloc (Below.refl _ _) (.cells #[.slice A5 y.f0.length c5, .slice A6 y.f1.length c6] 118)).cell hbw1).trans hy1
        clear hbw0 hbw1
        simp only [← hy, ← hz] at hcall
        have HY := Aside0.mk hy
        have HZ := Aside0.mk hz
        clear hy hz ex ey
        cases hq : p y z with
        | true =>
          simp only [hq] at hcall
          have HC := Aside0.mk hcall
          have HQ := Aside0.mk hq
          clear hcall hq
          go_wp2_with ((with_reducible refine (HC.out _ ?sb).mono ?_); (case sb => repeat (first | exact HB.out | apply below_alloc)); rintro e w10 ⟨rfl, hb'⟩; have n0_ := Aside0.mk (below_step (by repeat (first | exact HB.out | apply below_alloc)) hb'); clear HB; have HB := n0_; clear n0_ hb')
          go_roundg (l0.length - (kk + 1))
          case measure => omega
          case rel =>
            refine ⟨kk + 1, by omega, by omega, by go_num, ⟨fun j h1 h2 h => ?_⟩, HB⟩
            by_cases e : j = kk
            · subst e
              rw [← HY.out, ← HZ.out]; exact HQ.out
            · exact HA.out j h1 h2 (by omega)
        | false =>
          simp only [hq] at hcall
          have HC := Aside0.mk hcall
          have HQ := Aside0.mk hq
          clear hcall hq
          go_wp2_with ((with_reducible refine (HC.out _ ?sb).mono ?_); (case sb => repeat (first | exact HB.out | apply below_alloc)); rintro e w10 ⟨rfl, hb'⟩; have n0_ := Aside0.mk (below_step (by repeat (first | exact HB.out | apply below_alloc)) hb'); clear HB; have HB := n0_; clear n0_ hb')
          go_ret
          refine ⟨?_, HB.out⟩
          rw [eqL_false hlt hlt2 (by rw [← HY.out, ← HZ.out]; exact HQ.out)]; rfl
      · have hltz : ¬ (kk : Int) < (l0.length : Int) := by omega
        obtain rfl : kk = l0.length := by omega
        go_wp2
        go_ret
        exact ⟨by rw [eqL_true HL.out (fun j h1 h2 => HA.out j h1 h2 h1)]; rfl, HB.out⟩
  · have c3b0 : ((l0.length : Int) == (l1.length : Int)) = false := by rw [beq_eq_false_iff_ne]; omega
    have c3b1 : ((l0.length : Int) != (l1.length : Int)) = true := by rw [bne_iff_ne]; omega
    have c3b2 : (l0.length == l1.length) = false := by rw [beq_eq_false_iff_ne]; omega
    have c3b3 : (l0.length != l1.length) = true := by rw [bne_iff_ne]; omega
    have HE := Aside0.mk (eqL_len (p := p) hl)
    clear hl
    go_enter Try.func192, Try.ntmps192
    go_wp2
    go_ret
    exact ⟨by rw [HE.out]; rfl, Below.refl _ _⟩
end Go.Proofs.Ytcpljigliklgcaa.Q
end

section
namespace Go.Proofs.Ytcpljigliklgcaa.Q
open Go.RowKit Go.Proofs.YtcpljigliklgcaaW.PrintWords Go.Proofs.YtcpljigliklgcaaW.PrintLast Go.Proofs.YtcpljigliklgcaaW.PrintMore
attribute [local go_sem] max2_int min2_int max_two min_two max_three min_three max_four min_four   -- for this text's walks alone
set_option linter.unusedVariables false
set_option linter.unusedSimpArgs false
attribute [local go_sem] bin_leq bin_gtr bin_geq
theorem ev_map_loop {α β : Type} {L : Nat → List α → List β → Int → Option (List β)} {g : Nat → α → Option β} {cv : α → β} {z : α}
    (step : ∀ k xs acc i, L (k + 1) xs acc i = if i < (xs.length : Int) then (if 0 ≤ i then ((g k (xs.getD i.toNat z)).bind fun y => (if i < (acc.length : Int) then (L k xs (acc.set i.toNat y) (wrap64 (i + 1))) else none)) else none) else some acc)
    (xs : List α) (hlen : xs.length ≤ 4611686018427387904) (hg : ∀ x, x ∈ xs → Ev (fun k => g k x) (cv x)) (acc : List β) (ha : acc.length = xs.length) : Ev (fun k => L k xs acc 0) (xs.map cv) := by
  have key : ∀ d (i : Nat) (acc : List β), i + d = xs.length → acc.length = xs.length → Ev (fun k => L k xs acc (i : Int)) (acc.take i ++ (xs.drop i).map cv) := by
    intro d
    induction d with
    | zero =>
      intro i acc hi ha
      refine Ev.step (f := fun _ => some acc) (fun k => by rw [step, if_neg (by omega)]) ?_
      rw [List.take_of_length_le (by omega), List.drop_eq_nil_of_le (by omega)]
      simpa using Ev.now acc
    | succ d ih =>
      intro i acc hi ha
      have hl : i < xs.length := by omega
      have hw : wrap64 ((i : Int) + 1) = ((i + 1 : Nat) : Int) := by unfold wrap64; omega
      have hx : xs.getD ((i : Int).toNat) z = xs[i] := by simp [List.getD_eq_getElem?_getD, List.getElem?_eq_getElem hl]
      refine Ev.step (f := fun k => (g k xs[i]).bind fun y => L k xs (acc.set i y) ((i + 1 : Nat) : Int)) (fun k => ?_) ?_
      · rw [step, if_pos (by omega), if_pos (by omega), hx, hw]
        congr 1
        funext y
        rw [if_pos (by omega)]
        simp
      · have h2 := ih (i + 1) (acc.set i (cv xs[i])) (by omega) (by simpa using ha)
        have e : (acc.set i (cv xs[i])).take (i + 1) ++ (xs.drop (i + 1)).map cv = acc.take i ++ (xs.drop i).map cv := by
          rw [List.drop_eq_getElem_cons hl, List.map_cons, List.take_succ_eq_append_getElem (by simpa using (show i < acc.length by omega)), List.take_set_of_le (by omega)]
          simp
        rw [e] at h2
        exact Ev.bind (hg _ (List.getElem_mem hl)) h2
  have h := key xs.length 0 acc (by omega) ha
  simpa using h
theorem ev_refl_loop {α : Type} {L : Nat → List α → List α → Int → Option Bool} {g : Nat → α → α → Option Bool} {z : α}
    (step : ∀ k xs ys i, L (k + 1) xs ys i = if i < (xs.length : Int) then (if 0 ≤ i then (if i < (ys.length : Int) then ((g k (xs.getD i.toNat z) (ys.getD i.toNat z)).bind fun t => (if t = true then L k xs ys (wrap64 (i + 1)) else some false)) else none) else none) else some true)
    (xs : List α) (hlen : xs.length ≤ 4611686018427387904) (hg : ∀ x, x ∈ xs → Ev (fun k => g k x x) true) : Ev (fun k => L k xs xs 0) true := by
  have key : ∀ d (i : Nat), i + d = xs.length → Ev (fun k => L k xs xs (i : Int)) true := by
    intro d
    induction d with
    | zero =>
      intro i hi
      exact Ev.step (f := fun _ => some true) (fun k => by rw [step, if_neg (by omega)]) (Ev.now true)
    | succ d ih =>
      intro i hi
      have hl : i < xs.length := by omega
      have hw : wrap64 ((i : Int) + 1) = ((i + 1 : Nat) : Int) := by unfold wrap64; omega
      have hx : xs.getD ((i : Int).toNat) z = xs[i] := by simp [List.getD_eq_getElem?_getD, List.getElem?_eq_getElem hl]
      refine Ev.step (f := fun k => (g k xs[i] xs[i]).bind fun t => if t = true then L k xs xs ((i + 1 : Nat) : Int) else some false) (fun k => ?_) ?_
      · rw [step, if_pos (by omega), if_pos (by omega), if_pos (by omega), hx, hw]
      · refine Ev.bind (hg _ (List.getElem_mem hl)) ?_
        simp only [if_true]
        exact ih (i + 1) (by omega)
  exact key xs.length 0 (by omega)
theorem ev_sz_loop {α : Type} {L : Nat → List α → Int → Int → Option Int} {g : Nat → α → Int → Option Int} {z : α}
    (step : ∀ k xs left i, L (k + 1) xs left i = if i < (xs.length : Int) then (if 0 ≤ i then ((g k (xs.getD i.toNat z) left).bind fun t => (if t < 0 then some (-1) else L k xs t (wrap64 (i + 1)))) else none) else some left)
    (xs : List α) (hlen : xs.length ≤ 4611686018427387904) (hg : ∀ x, x ∈ xs → ∀ left : Int, 0 ≤ left → left ≤ 1048576 → ∃ r, Ev (fun k => g k x left) r ∧ r ≤ left) (left : Int) (h0 : 0 ≤ left) (h1 : left ≤ 1048576) :
    ∃ r, Ev (fun k => L k xs left 0) r ∧ r ≤ left := by
  have key : ∀ d (i : Nat) (left : Int), i + d = xs.length → 0 ≤ left → left ≤ 1048576 → ∃ r, Ev (fun k => L k xs left (i : Int)) r ∧ r ≤ left := by
    intro d
    induction d with
    | zero =>
      intro i left hi h0 h1
      exact ⟨left, Ev.step (f := fun _ => some left) (fun k => by rw [step, if_neg (by omega)]) (Ev.now left), by omega⟩
    | succ d ih =>
      intro i left hi h0 h1
      have hl : i < xs.length := by omega
      have hw : wrap64 ((i : Int) + 1) = ((i + 1 : Nat) : Int) := by unfold wrap64; omega
      have hx : xs.getD ((i : Int).toNat) z = xs[i] := by simp [List.getD_eq_getElem?_getD, List.getElem?_eq_getElem hl]
      obtain ⟨t, ht, htl⟩ := hg _ (List.getElem_mem hl) left h0 h1
      by_cases hn : t < 0
      · refine ⟨-1, Ev.step (f := fun k => (g k xs[i] left).bind fun t => if t < 0 then some (-1) else L k xs t ((i + 1 : Nat) : Int)) (fun k => ?_) (Ev.bind ht ?_), by omega⟩
        · rw [step, if_pos (by omega), if_pos (by omega), hx, hw]
        · simp only [hn, if_true]
          exact Ev.now _
      · obtain ⟨r, hr, hrl⟩ := ih (i + 1) t (by omega) (by omega) (by omega)
        refine ⟨r, Ev.step (f := fun k => (g k xs[i] left).bind fun t => if t < 0 then some (-1) else L k xs t ((i + 1 : Nat) : Int)) (fun k => ?_) (Ev.bind ht ?_), by omega⟩
        · rw [step, if_pos (by omega), if_pos (by omega), hx, hw]
        · simp only [hn, if_false]
          exact hr
  exact key xs.length 0 left (by omega) h0 h1
end Go.Proofs.Ytcpljigliklgcaa.Q
end

section
namespace Go.Proofs.Ytcpljigliklgcaa.Q
open Go.RowKit Go.Proofs.YtcpljigliklgcaaW.PrintWords Go.Proofs.YtcpljigliklgcaaW.PrintLast
set_option linter.unusedVariables false
theorem Ev.shift {α : Type} {g h : Nat → Option α} {r : α} {c d : Nat} (e : ∀ k, g (k + c) = h (k + d)) (k : Ev h r) : Ev g r := by
  obtain ⟨K, hK⟩ := k
  refine ⟨K + c, fun n hn => ?_⟩
  obtain ⟨m, rfl⟩ : ∃ m, n = m + c := ⟨n - c, by omega⟩
  rw [e]
  exact hK _ (by omega)
theorem Ev.at_ {α : Type} {g : Nat → Option α} {r : α} {c : Nat} (e : ∀ k, g (k + c) = some r) : Ev g r := by
  refine ⟨c, fun n hn => ?_⟩
  obtain ⟨m, rfl⟩ : ∃ m, n = m + c := ⟨n - c, by omega⟩
  exact e m
theorem Ev.succ {α : Type} {g : Nat → Option α} {r : α} (h : Ev (fun k => g (k + 1)) r) : Ev g r := Ev.step (fun _ => rfl) h
theorem ev_all_loop {L : Nat → Int → Option Bool} {n : Nat} {p : Nat → Bool} {fin : Bool}
    (step : ∀ i : Nat, i < n → (∀ j, j < i → p j = true) → p i = true → ∃ c d, ∀ k, L (k + c) (i : Int) = L (k + d) ((i + 1 : Nat) : Int))
    (stop : ∀ i : Nat, i < n → (∀ j, j < i → p j = true) → p i = false → ∃ c, ∀ k, L (k + c) (i : Int) = some false)
    (done : Ev (fun k => L k (n : Int)) fin) : Ev (fun k => L k 0) (allR p n && fin) := by
  have key : ∀ d (i : Nat), i + d = n → (∀ j, j < i → p j = true) → Ev (fun k => L k (i : Int)) (allR p n && fin) := by
    intro d
    induction d with
    | zero =>
      intro i hi hp
      obtain rfl : i = n := by omega
      rw [allR_true hp, Bool.true_and]
      exact done
    | succ d ih =>
      intro i hi hp
      cases h : p i with
      | true =>
        obtain ⟨c, d', e⟩ := step i (by omega) hp h
        refine Ev.shift e (ih (i + 1) (by omega) (fun j hj => ?_))
        rcases Nat.lt_or_eq_of_le (Nat.le_of_lt_succ hj) with h1 | h1
        · exact hp j h1
        · rw [h1]; exact h
      | false =>
        obtain ⟨c, e⟩ := stop i (by omega) hp h
        rw [allR_false (by omega) h, Bool.false_and]
        exact Ev.at_ e
  exact key n 0 (by omega) (fun j hj => absurd hj (Nat.not_lt_zero _))
theorem ev_all_loop2 {L : Nat → Int → Option Bool} {n : Nat} {p : Nat → Bool} {fin : Bool} (m : Nat)
    (step : ∀ i : Nat, m ≤ i → i < n → (∀ j, j < i → p j = true) → p i = true → ∀ r, Ev (fun k => L k ((i + 1 : Nat) : Int)) r → Ev (fun k => L k (i : Int)) r)
    (stop : ∀ i : Nat, m ≤ i → i < n → (∀ j, j < i → p j = true) → p i = false → Ev (fun k => L k (i : Int)) false)
    (done : Ev (fun k => L k (n : Int)) fin) (hm : m ≤ n) (hpm : ∀ j, j < m → p j = true) : Ev (fun k => L k (m : Int)) (allR p n && fin) := by
  have key : ∀ d (i : Nat), m ≤ i → i + d = n → (∀ j, j < i → p j = true) → Ev (fun k => L k (i : Int)) (allR p n && fin) := by
    intro d
    induction d with
    | zero =>
      intro i _ hi hp
      obtain rfl : i = n := by omega
      rw [allR_true hp, Bool.true_and]
      exact done
    | succ d ih =>
      intro i hmi hi hp
      cases h : p i with
      | true =>
        refine step i hmi (by omega) hp h _ (ih (i + 1) (by omega) (by omega) (fun j hj => ?_))
        rcases Nat.lt_or_eq_of_le (Nat.le_of_lt_succ hj) with h1 | h1
        · exact hp j h1
        · rw [h1]; exact h
      | false =>
        rw [allR_false (by omega) h, Bool.false_and]
        exact stop i hmi (by omega) hp h
  exact key (n - m) m (Nat.le_refl _) (by omega) hpm
theorem ev_idx_loop {α : Type} {L : Nat → Int → Option Int} {l : List α} {q : α → Bool}
    (step : ∀ (i : Nat) (hi : i < l.length), q l[i] = false → ∀ k, L (k + 1) (i : Int) = L k ((i + 1 : Nat) : Int))
    (stop : ∀ (i : Nat) (hi : i < l.length), q l[i] = true → ∀ k, L (k + 1) (i : Int) = some (i : Int))
    (done : ∀ k, L (k + 1) (l.length : Int) = some (-1)) : Ev (fun k => L k 0) (idxI q l) := by
  have key : ∀ d (i : Nat), i + d = l.length → (∀ j (hj : j < l.length), j < i → q l[j] = false) → Ev (fun k => L k (i : Int)) (idxI q l) := by
    intro d
    induction d with
    | zero =>
      intro i hi hp
      obtain rfl : i = l.length := by omega
      rw [idxI_none (fun j hj => hp j hj hj)]
      exact Ev.at_ (c := 1) done
    | succ d ih =>
      intro i hi hp
      cases h : q (l[i]'(by omega)) with
      | false =>
        refine Ev.step (step i (by omega) h) (ih (i + 1) (by omega) (fun j hj h2 => ?_))
        rcases Nat.lt_or_eq_of_le (Nat.le_of_lt_succ h2) with h1 | h1
        · exact hp j hj h1
        · subst h1; exact h
      | true =>
        rw [idxI_some (by omega) (fun j hj => hp j (by omega) hj) h]
        exact Ev.at_ (c := 1) (stop i (by omega) h)
  exact key l.length 0 (by omega) (fun j _ hj => absurd hj (Nat.not_lt_zero _))
theorem ev_same_loop {α : Type} {L : Nat → Int → Option Bool} {xs ys : List α} (hl : xs.length = ys.length)
    (step : ∀ (i : Nat) (h1 : i < xs.length) (h2 : i < ys.length), xs[i] = ys[i] → ∀ k, L (k + 1) (i : Int) = L k ((i + 1 : Nat) : Int))
    (stop : ∀ (i : Nat) (h1 : i < xs.length) (h2 : i < ys.length), xs[i] ≠ ys[i] → ∀ k, L (k + 1) (i : Int) = some false)
    (done : ∀ k, L (k + 1) (xs.length : Int) = some true) : ∃ b, Ev (fun k => L k 0) b ∧ (b = true ↔ xs = ys) := by
  have key : ∀ d (i : Nat), i + d = xs.length → xs.take i = ys.take i → ∃ b, Ev (fun k => L k (i : Int)) b ∧ (b = true ↔ xs = ys) := by
    intro d
    induction d with
    | zero =>
      intro i hi hp
      obtain rfl : i = xs.length := by omega
      refine ⟨true, Ev.at_ (c := 1) done, fun _ => ?_, fun _ => rfl⟩
      rw [List.take_length, hl, List.take_length] at hp
      exact hp
    | succ d ih =>
      intro i hi hp
      have h1 : i < xs.length := by omega
      have h2 : i < ys.length := by omega
      rcases Classical.em (xs[i] = ys[i]) with h | h
      · obtain ⟨b, hb, hb2⟩ := ih (i + 1) (by omega) (by rw [List.take_succ_eq_append_getElem h1, List.take_succ_eq_append_getElem h2, hp, h])
        exact ⟨b, Ev.step (step i h1 h2 h) hb, hb2⟩
      · refine ⟨false, Ev.at_ (c := 1) (stop i h1 h2 h), by simp, fun e => absurd (by subst e; rfl) h⟩
  exact key xs.length 0 (by omega) (by simp)
theorem all_allR {α : Type} (q : α → Bool) (z : α) (l : List α) : l.all q = allR (fun j => q (l.getD j z)) l.length := by
  rw [Bool.eq_iff_iff, List.all_eq_true, allR_iff]
  constructor
  · intro h j hj
    rw [List.getD_eq_getElem?_getD, List.getElem?_eq_getElem hj]
    exact h _ (List.getElem_mem hj)
  · intro h x hx
    obtain ⟨j, hj, rfl⟩ := List.mem_iff_getElem.mp hx
    have := h j hj
    rwa [List.getD_eq_getElem?_getD, List.getElem?_eq_getElem hj] at this
theorem allR_and (p q : Nat → Bool) (n : Nat) : allR (fun j => p j && q j) n = (allR p n && allR q n) := by
  rw [Bool.eq_iff_iff, Bool.and_eq_true, allR_iff, allR_iff, allR_iff]
  simp only [Bool.and_eq_true]
  exact ⟨fun h => ⟨fun j hj => (h j hj).1, fun j hj => (h j hj).2⟩, fun h j hj => ⟨h.1 j hj, h.2 j hj⟩⟩
theorem bool_eq_of_iff {a b : Bool} {P : Prop} (h : a = true ↔ P) (k : b = true ↔ P) : a = b := by
  rw [Bool.eq_iff_iff, h, k]
theorem wrap_i {i : Nat} (h : i < 4611686018427387904) : wrap64 ((i : Int) + 1) = ((i + 1 : Nat) : Int) := by unfold wrap64; omega
theorem wrap_2 {i : Int} (h0 : -4611686018427387904 ≤ i) (h : i < 4611686018427387904) : wrap64 (i + 1) = i + 1 := by unfold wrap64; omega
end Go.Proofs.Ytcpljigliklgcaa.Q
end

section
namespace Go.Proofs.Ytcpljigliklgcaa.Q
open Go.RowKit Go.Proofs.YtcpljigliklgcaaW.PrintWords Go.Proofs.YtcpljigliklgcaaW.PrintLast
set_option linter.unusedVariables false
set_option linter.unusedSimpArgs false
theorem rdEntry {l : List S51} {i : Nat} (h : i < l.length) : rd_T51 l (i : Int) = l[i] := by
  simp [rd_T51, List.getD_eq_getElem?_getD, List.getElem?_eq_getElem h]
theorem neEntry (x y : S51) : ((!(x.f0.toList == y.f0.toList) || !(x.f1 == y.f1)) = true) ↔ x ≠ y := by
  constructor
  · rintro h rfl
    simp at h
  · intro h
    cases h1 : (!(x.f0.toList == y.f0.toList) || !(x.f1 == y.f1)) with
    | true => rfl
    | false =>
      simp only [Bool.or_eq_false_iff, Bool.not_eq_false', beq_iff_eq] at h1
      exfalso
      apply h
      cases x; cases y
      simp only at h1
      obtain ⟨h2, h3⟩ := h1
      rw [toList_inj h2, h3]
theorem sameMapS_ev (a b : List S51) (ha : a.length ≤ 1048576) : ∃ r, Ev (fun k => spec_l01Same.f k a b) r ∧ (r = true ↔ a = b) := by
  by_cases hl : a.length = b.length
  · have c : (a.length : Int) = (b.length : Int) := by omega
    obtain ⟨r, hr, h⟩ := ev_same_loop (L := fun k i => spec_l01Same.l0 k a b i) hl (fun i h1 h2 e k => by
      have c1 : (i : Int) < (a.length : Int) := by omega
      have c2 : (i : Int) < (b.length : Int) := by omega
      have e2 : ¬ ((!(a[i].f0.toList == b[i].f0.toList) || !(a[i].f1 == b[i].f1)) = true) := fun h => (neEntry _ _).mp h e
      simp only [spec_l01Same.l0, rdEntry h1, rdEntry h2, c1, c2, Int.natCast_nonneg, if_true, e2, Bool.false_eq_true, if_false, wrap_i (show i < 4611686018427387904 by omega)]) (fun i h1 h2 e k => by
      have c1 : (i : Int) < (a.length : Int) := by omega
      have c2 : (i : Int) < (b.length : Int) := by omega
      have e2 := (neEntry _ _).mpr e
      simp only [spec_l01Same.l0, rdEntry h1, rdEntry h2, c1, c2, Int.natCast_nonneg, if_true, e2]) (fun k => by
      simp only [spec_l01Same.l0]
      rw [if_neg (by omega)])
    exact ⟨r, Ev.congr (f := fun k => spec_l01Same.l0 k a b 0) (fun k => by unfold spec_l01Same.f; rw [if_pos c]) hr, h⟩
  · refine ⟨false, Ev.congr (f := fun _ => some false) (fun k => by unfold spec_l01Same.f; rw [if_neg (by omega)]) (Ev.now _), by simp, fun e => absurd (by rw [e]) hl⟩
theorem equalMap_ev (a b : List S51) (ha : a.length ≤ 1048576) : ∃ r, Ev (fun k => impl_Entry_109.f k a b) r ∧ (r = true ↔ a = b) := by
  by_cases hl : a.length = b.length
  · have c : (a.length : Int) = (b.length : Int) := by omega
    obtain ⟨r, hr, h⟩ := ev_same_loop (L := fun k i => impl_Entry_109.l0 k a b (a.length : Int) i) hl (fun i h1 h2 e k => by
      have c1 : (i : Int) < (a.length : Int) := by omega
      have c2 : (i : Int) < (b.length : Int) := by omega
      have e2 : ¬ ((!(a[i].f0.toList == b[i].f0.toList) || !(a[i].f1 == b[i].f1)) = true) := fun h => (neEntry _ _).mp h e
      simp only [impl_Entry_109.l0, rdEntry h1, rdEntry h2, c1, c2, Int.natCast_nonneg, if_true, e2, Bool.false_eq_true, if_false, wrap_i (show i < 4611686018427387904 by omega)]) (fun i h1 h2 e k => by
      have c1 : (i : Int) < (a.length : Int) := by omega
      have c2 : (i : Int) < (b.length : Int) := by omega
      have e2 := (neEntry _ _).mpr e
      simp only [impl_Entry_109.l0, rdEntry h1, rdEntry h2, c1, c2, Int.natCast_nonneg, if_true, e2]) (fun k => by
      simp only [impl_Entry_109.l0]
      rw [if_neg (by omega)])
    exact ⟨r, Ev.congr (f := fun k => impl_Entry_109.l0 k a b (a.length : Int) 0) (fun k => by unfold impl_Entry_109.f; rw [if_pos c]) hr, h⟩
  · refine ⟨false, Ev.congr (f := fun _ => some false) (fun k => by unfold impl_Entry_109.f; rw [if_neg (by omega)]) (Ev.now _), by simp, fun e => absurd (by rw [e]) hl⟩
end Go.Proofs.Ytcpljigliklgcaa.Q
end

section
namespace Go.Proofs.Ytcpljigliklgcaa.Q
open Go.RowKit Go.Proofs.YtcpljigliklgcaaW.PrintWords Go.Proofs.YtcpljigliklgcaaW.PrintLast
set_option linter.unusedVariables false
set_option linter.unusedSimpArgs false
theorem ev_same_loop_ev {α : Type} {L : Nat → Int → Option Bool} {xs ys : List α} (hl : xs.length = ys.length)
    (step : ∀ (i : Nat) (h1 : i < xs.length) (h2 : i < ys.length), xs[i] = ys[i] → ∀ r, Ev (fun k => L k ((i + 1 : Nat) : Int)) r → Ev (fun k => L k (i : Int)) r)
    (stop : ∀ (i : Nat) (h1 : i < xs.length) (h2 : i < ys.length), xs[i] ≠ ys[i] → Ev (fun k => L k (i : Int)) false)
    (done : Ev (fun k => L k (xs.length : Int)) true) : ∃ b, Ev (fun k => L k 0) b ∧ (b = true ↔ xs = ys) := by
  have key : ∀ (d i : Nat), i + d = xs.length → ∃ b, Ev (fun k => L k (i : Int)) b ∧ (b = true ↔ xs.drop i = ys.drop i) := by
    intro d
    induction d with
    | zero =>
      intro i hi
      obtain rfl : i = xs.length := by omega
      refine ⟨true, done, ?_⟩
      rw [List.drop_eq_nil_of_le (Nat.le_refl _), List.drop_eq_nil_of_le (by omega)]
      simp
    | succ d ih =>
      intro i hi
      have h1 : i < xs.length := by omega
      have h2 : i < ys.length := by omega
      rw [List.drop_eq_getElem_cons h1, List.drop_eq_getElem_cons h2]
      by_cases h : xs[i] = ys[i]
      · obtain ⟨b, hb, e⟩ := ih (i + 1) (by omega)
        refine ⟨b, step i h1 h2 h b hb, ?_⟩
        rw [e, h, List.cons.injEq]
        exact ⟨fun q => ⟨rfl, q⟩, fun q => q.2⟩
      · refine ⟨false, stop i h1 h2 h, ?_⟩
        exact ⟨fun q => absurd q (by decide), fun q => absurd (List.cons.inj q).1 h⟩
  obtain ⟨b, hb, e⟩ := key xs.length 0 (by omega)
  exact ⟨b, hb, by simpa using e⟩
theorem rdInt_ {l : List Int} {i : Nat} (h : i < l.length) : rd l (i : Int) = l[i] := by
  simp [rd, List.getD_eq_getElem?_getD, List.getElem?_eq_getElem h]
theorem rdCommit_ {l : List S118} {i : Nat} (h : i < l.length) : rd_T118 l (i : Int) = l[i] := by
  simp [rd_T118, List.getD_eq_getElem?_getD, List.getElem?_eq_getElem h]
theorem l00Same_ev (a b : List Int) (ha : a.length ≤ 1048576) : ∃ r, Ev (fun k => spec_l00Same.f k a b) r ∧ (r = true ↔ a = b) := by
  by_cases hl : a.length = b.length
  · have c : (a.length : Int) = (b.length : Int) := by omega
    obtain ⟨r, hr, h⟩ := ev_same_loop (L := fun k i => spec_l00Same.l0 k a b i) hl (fun i h1 h2 e k => by
      have c1 : (i : Int) < (a.length : Int) := by omega
      have c2 : (i : Int) < (b.length : Int) := by omega
      simp only [spec_l00Same.l0, rdInt_ h1, rdInt_ h2, c1, c2, Int.natCast_nonneg, if_true, e, wrap_i (show i < 4611686018427387904 by omega)]) (fun i h1 h2 e k => by
      have c1 : (i : Int) < (a.length : Int) := by omega
      have c2 : (i : Int) < (b.length : Int) := by omega
      simp only [spec_l00Same.l0, rdInt_ h1, rdInt_ h2, c1, c2, Int.natCast_nonneg, if_true, e, if_false]) (fun k => by
      simp only [spec_l00Same.l0]
      rw [if_neg (by omega)])
    exact ⟨r, Ev.congr (fun k => by unfold spec_l00Same.f; rw [if_pos c]) hr, h⟩
  · exact ⟨false, Ev.at_ (c := 0) (fun k => by unfold spec_l00Same.f; rw [if_neg (by omega)]), by simp, fun e => absurd (by rw [e]) hl⟩
theorem equalInt_ev (a b : List Int) (ha : a.length ≤ 1048576) : ∃ r, Ev (fun k => slices_Equal_int_int.f k a b) r ∧ (r = true ↔ a = b) := by
  by_cases hl : a.length = b.length
  · have c : (a.length : Int) = (b.length : Int) := by omega
    obtain ⟨r, hr, h⟩ := ev_same_loop (L := fun k i => slices_Equal_int_int.l0 k a b (a.length : Int) i) hl (fun i h1 h2 e k => by
      have c1 : (i : Int) < (a.length : Int) := by omega
      have c2 : (i : Int) < (b.length : Int) := by omega
      simp only [slices_Equal_int_int.l0, rdInt_ h1, rdInt_ h2, c1, c2, Int.natCast_nonneg, if_true, e, wrap_i (show i < 4611686018427387904 by omega)]) (fun i h1 h2 e k => by
      have c1 : (i : Int) < (a.length : Int) := by omega
      have c2 : (i : Int) < (b.length : Int) := by omega
      simp only [slices_Equal_int_int.l0, rdInt_ h1, rdInt_ h2, c1, c2, Int.natCast_nonneg, if_true, e, if_false]) (fun k => by
      simp only [slices_Equal_int_int.l0]
      rw [if_neg (by omega)])
    exact ⟨r, Ev.congr (fun k => by unfold slices_Equal_int_int.f; rw [if_pos c]) hr, h⟩
  · exact ⟨false, Ev.at_ (c := 0) (fun k => by unfold slices_Equal_int_int.f; rw [if_neg (by omega)]), by simp, fun e => absurd (by rw [e]) hl⟩
theorem l03SameCommit_ev (x y : S118) (h0 : x.f0.length ≤ 1048576) (h1 : x.f1.length ≤ 1048576) : ∃ r, Ev (fun k => spec_l03SameCommit.f k x.f0 x.f1 y.f0 y.f1) r ∧ (r = true ↔ x = y) := by
  obtain ⟨r0, e0, i0⟩ := l00Same_ev x.f0 y.f0 h0
  obtain ⟨r1, e1, i1⟩ := sameMapS_ev x.f1 y.f1 h1
  refine ⟨r0 && r1, ?_, ?_⟩
  · unfold spec_l03SameCommit.f
    refine Ev.bind e0 ?_
    cases r0 with
    | false => simp only [Bool.false_eq_true, if_false, Bool.false_and]; exact Ev.now _
    | true => simp only [if_true, Bool.true_and]; exact Ev.bind e1 (Ev.now _)
  · rw [Bool.and_eq_true, i0, i1]
    cases x; cases y
    simp
theorem sameCommit_ev (x y : S118) (h0 : x.f0.length ≤ 1048576) (h1 : x.f1.length ≤ 1048576) : ∃ r, Ev (fun k => impl_sameCommit.f k x.f0 x.f1 y.f0 y.f1) r ∧ (r = true ↔ x = y) := by
  obtain ⟨r0, e0, i0⟩ := equalInt_ev x.f0 y.f0 h0
  obtain ⟨r1, e1, i1⟩ := equalMap_ev x.f1 y.f1 h1
  refine ⟨r0 && r1, ?_, ?_⟩
  · unfold impl_sameCommit.f
    refine Ev.bind e0 ?_
    cases r0 with
    | false => simp only [Bool.false_eq_true, if_false, Bool.false_and]; exact Ev.now _
    | true => simp only [if_true, Bool.true_and]; exact Ev.bind e1 (Ev.now _)
  · rw [Bool.and_eq_true, i0, i1]
    cases x; cases y
    simp
theorem l03Same_ev (a b : List S118) (ha : a.length ≤ 1048576) (hf : ∀ x, x ∈ a → x.f0.length ≤ 1048576 ∧ x.f1.length ≤ 1048576) : ∃ r, Ev (fun k => spec_l03Same.f k a b) r ∧ (r = true ↔ a = b) := by
  by_cases hl : a.length = b.length
  · have c : (a.length : Int) = (b.length : Int) := by omega
    obtain ⟨r, hr, h⟩ := ev_same_loop_ev (L := fun k i => spec_l03Same.l0 k a b i) hl (fun i h1 h2 e r hr => by
      have c1 : (i : Int) < (a.length : Int) := by omega
      have c2 : (i : Int) < (b.length : Int) := by omega
      obtain ⟨q, hq, hi⟩ := l03SameCommit_ev a[i] b[i] (hf _ (List.getElem_mem h1)).1 (hf _ (List.getElem_mem h1)).2
      obtain rfl := hi.mpr e
      refine Ev.succ (g := fun k => spec_l03Same.l0 k a b (i : Int)) ?_
      simp only [spec_l03Same.l0, rdCommit_ h1, rdCommit_ h2, c1, c2, Int.natCast_nonneg, if_true, wrap_i (show i < 4611686018427387904 by omega)]
      refine Ev.bind hq ?_
      simp only [if_true]
      exact hr) (fun i h1 h2 e => by
      have c1 : (i : Int) < (a.length : Int) := by omega
      have c2 : (i : Int) < (b.length : Int) := by omega
      obtain ⟨q, hq, hi⟩ := l03SameCommit_ev a[i] b[i] (hf _ (List.getElem_mem h1)).1 (hf _ (List.getElem_mem h1)).2
      have hq0 : q = false := by
        cases q with
        | false => rfl
        | true => exact absurd (hi.mp rfl) e
      subst hq0
      refine Ev.succ (g := fun k => spec_l03Same.l0 k a b (i : Int)) ?_
      simp only [spec_l03Same.l0, rdCommit_ h1, rdCommit_ h2, c1, c2, Int.natCast_nonneg, if_true]
      refine Ev.bind hq ?_
      simp only [Bool.false_eq_true, if_false]
      exact Ev.now _) (Ev.at_ (c := 1) (fun k => by
      simp only [spec_l03Same.l0]
      rw [if_neg (by omega)]))
    exact ⟨r, Ev.congr (fun k => by unfold spec_l03Same.f; rw [if_pos c]) hr, h⟩
  · exact ⟨false, Ev.at_ (c := 0) (fun k => by unfold spec_l03Same.f; rw [if_neg (by omega)]), by simp, fun e => absurd (by rw [e]) hl⟩
end Go.Proofs.Ytcpljigliklgcaa.Q
end

section
namespace Go.Proofs.Ytcpljigliklgcaa.Q
open Go.RowKit Go.Proofs.YtcpljigliklgcaaW.PrintWords Go.Proofs.YtcpljigliklgcaaW.PrintLast Go.Proofs.YtcpljigliklgcaaW.PrintMore
attribute [local go_sem] max2_int min2_int max_two min_two max_three min_three max_four min_four   -- for this text's walks alone
set_option linter.unusedVariables false
set_option linter.unusedSimpArgs false
attribute [local go_sem] bin_leq bin_gtr bin_geq
def entQ (x y : S51) : Bool := x.f0.toList == y.f0.toList && x.f1 == y.f1
theorem entQ_iff (x y : S51) : entQ x y = true ↔ x = y := by
  unfold entQ
  rw [Bool.and_eq_true, beq_iff_eq, beq_iff_eq]
  constructor
  · rintro ⟨h1, h2⟩
    cases x; cases y
    simp only at h1 h2
    rw [toList_inj h1, h2]
  · rintro rfl
    exact ⟨rfl, rfl⟩
def comB (x y : S118) : Bool := eqL (fun a b : Int => a == b) x.f0 y.f0 && eqL entQ x.f1 y.f1
theorem comB_iff (x y : S118) : comB x y = true ↔ x = y := by
  unfold comB
  rw [Bool.and_eq_true, eqL_iff (fun a b => beq_iff_eq), eqL_iff entQ_iff]
  cases x; cases y
  simp
def fewC (x : S118) : Bool := decide (x.f0.length ≤ 1048576) && decide (x.f1.length ≤ 1048576)
def eqCommits.f (l0 l1 : List (S118)) : Option (Bool) := if l0.all fewC then some (eqL comB l0 l1) else none
theorem eqCommits.calls (A0 : Option Addr) (c0 : Nat) (l0 : List (S118)) (A1 : Option Addr) (c1 : Nat) (l1 : List (S118)) (r : Bool) (w : World) (hr0 : Kd.C k118 w A0 l0.length l0) (hc0 : l0.length ≤ c0) (hr1 : Kd.C k118 w A1 l1.length l1) (hc1 : l1.length ≤ c1) (h : eqCommits.f l0 l1 = some r) :
    Calls Try.prog 192 #[.slice A0 l0.length c0, .slice A1 l1.length c1, .func (.func 193) #[] #[]] w fun e w' => e = .returned (.bool r) ∧ Below w.heap.size w w' := by
  unfold eqCommits.f at h
  by_cases h0 : l0.all fewC = true
  · rw [if_pos h0] at h
    obtain rfl := Option.some.inj h
    refine eqF_Commit 193 #[] (enters_ Try.func193 (by kernel_rfl) rfl) comB A0 c0 l0 A1 c1 l1 w hr0 hc0 hr1 hc1 ?_
    intro W x y B0 B1 B2 B3 d0 d1 d2 d3 hW hx hy g0 r0 g1 r1 g2 r2 g3 r3
    have hf := List.all_eq_true.mp h0 x hx
    unfold fewC at hf
    rw [Bool.and_eq_true, decide_eq_true_eq, decide_eq_true_eq] at hf
    obtain ⟨q, hq, hi⟩ := sameCommit_ev x y hf.1 hf.2
    obtain rfl : q = comB x y := bool_eq_of_iff hi (comB_iff x y)
    obtain ⟨K, hK⟩ := hq
    exact impl_sameCommit.calls K B0 d0 x.f0 B1 d1 x.f1 B2 d2 y.f0 B3 d3 y.f1 _ W r0 g0 r1 g1 r2 g2 r3 g3 (hK K (Nat.le_refl _))
  · rw [if_neg h0] at h
    cases h
end Go.Proofs.Ytcpljigliklgcaa.Q
end

section
namespace Go.Proofs.Ytcpljigliklgcaa.Q
open Go.RowKit Go.Proofs.YtcpljigliklgcaaW.PrintWords Go.Proofs.YtcpljigliklgcaaW.PrintLast Go.Proofs.YtcpljigliklgcaaW.PrintMore
attribute [local go_sem] max2_int min2_int max_two min_two max_three min_three max_four min_four   -- for this text's walks alone
set_option linter.unusedVariables false
set_option linter.unusedSimpArgs false
attribute [local go_sem] bin_leq bin_gtr bin_geq
attribute [local go_sem high] eqA178
abbrev impl_Base_grows.m0 : Array Bool := #[false, false, false, false, false, false, false, false, false, false, false, false, false, false, false, false, false, false, false, false, false, false, false, false, false, false, false, false]
abbrev impl_Base_grows.m1 : Array Bool := #[true, false, false, false, false, false, false, false, false, false, false, false, false, false, false, false, false, false, false, false, false, false, false, false, false, false, false, false]
abbrev impl_Base_grows.m2 : Array Bool := #[true, false, false, true, false, false, false, false, false, false, false, false, false, false, false, false, false, false, false, false, false, false, false, false, false, false, false, false]
abbrev impl_Base_grows.m3 : Array Bool := #[true, true, false, true, false, false, false, false, false, false, false, false, false, false, false, false, false, false, false, false, false, false, false, false, false, false, false, false]
abbrev impl_Base_grows.m4 : Array Bool := #[true, true, true, true, false, false, false, false, false, false, false, false, false, false, false, false, false, false, false, false, false, false, false, false, false, false, false, false]
abbrev impl_Base_grows.m5 : Array Bool := #[true, true, true, true, true, false, false, false, false, false, false, false, false, false, false, false, false, false, false, false, false, false, false, false, false, false, false, false]
abbrev impl_Base_grows.m6 : Array Bool := #[true, true, true, true, true, true, false, false, false, false, false, false, false, false, false, false, false, false, false, false, false, false, false, false, false, false, false, false]
abbrev impl_Base_grows.m7 : Array Bool := #[true, true, true, true, true, true, true, false, false, false, false, false, false, false, false, false, false, false, false, false, false, false, false, false, false, false, false, false]
abbrev impl_Base_grows.m8 : Array Bool := #[true, true, true, true, true, true, true, true, false, false, false, false, false, false, false, false, false, false, false, false, false, false, false, false, false, false, false, false]
abbrev impl_Base_grows.m9 : Array Bool := #[true, true, true, true, true, true, true, true, true, false, false, false, false, false, false, false, false, false, false, false, false, false, false, false, false, false, false, false]
abbrev impl_Base_grows.m10 : Array Bool := #[true, true, true, true, true, true, true, true, true, true, true, true, false, false, false, false, false, false, false, false, false, false, false, false, false, false, false, false]
abbrev impl_Base_grows.m11 : Array Bool := #[true, true, true, true, true, true, true, true, true, true, true, true, true, false, false, false, false, false, false, false, false, false, false, false, false, false, false, false]
abbrev impl_Base_grows.m12 : Array Bool := #[true, true, true, true, true, true, true, true, true, true, true, true, true, true, false, false, false, false, false, false, false, false, false, false, false, false, false, false]
abbrev impl_Base_grows.m13 : Array Bool := #[true, true, true, true, true, true, true, true, true, true, true, true, true, true, true, false, false, false, false, false, false, false, false, false, false, false, false, false]
abbrev impl_Base_grows.m14 : Array Bool := #[true, true, true, true, true, true, true, true, true, true, true, true, true, true, true, true, false, false, false, false, false, false, false, false, false, false, false, false]
abbrev impl_Base_grows.m15 : Array Bool := #[true, true, true, true, true, true, true, true, true, true, true, true, true, true, true, true, true, false, false, false, false, false, false, false, false, false, false, false]
abbrev impl_Base_grows.m16 : Array Bool := #[true, true, true, true, true, true, true, true, true, true, true, true, true, true, true, true, true, true, false, false, false, false, false, false, false, false, false, false]
abbrev impl_Base_grows.m17 : Array Bool := #[true, true, true, true, true, true, true, true, true, true, true, true, true, true, true, true, true, true, true, false, false, false, false, false, false, false, false, false]
abbrev impl_Base_grows.m18 : Array Bool := #[true, true, true, true, true, true, true, true, true, true, true, true, true, true, true, true, true, true, true, true, false, false, false, false, false, false, false, false]
abbrev impl_Base_grows.m19 : Array Bool := #[true, true, true, true, true, true, true, true, true, true, true, true, true, true, true, true, true, true, true, true, true, false, false, false, false, false, false, false]
abbrev impl_Base_grows.m20 : Array Bool := #[true, true, true, true, true, true, true, true, true, true, true, true, true, true, true, true, true, true, true, true, true, true, false, false, false, false, false, false]
abbrev impl_Base_grows.m21 : Array Bool := #[true, true, true, true, true, true, true, true, true, true, true, true, true, true, true, true, true, true, true, true, true, true, true, false, false, false, false, false]
abbrev impl_Base_grows.m22 : Array Bool := #[true, true, true, true, true, true, true, true, true, true, true, true, true, true, true, true, true, true, true, true, true, true, true, true, false, false, false, false]
abbrev impl_Base_grows.m23 : Array Bool := #[true, true, true, true, true, true, true, true, true, true, true, true, true, true, true, true, true, true, true, true, true, true, true, true, true, false, false, false]
abbrev impl_Base_grows.m24 : Array Bool := #[true, true, true, true, true, true, true, true, true, true, true, true, true, true, true, true, true, true, true, true, true, true, true, true, true, true, false, false]
abbrev impl_Base_grows.m25 : Array Bool := #[true, true, true, true, true, true, true, true, true, true, true, true, true, true, true, true, true, true, true, true, true, true, true, true, true, true, true, false]
abbrev impl_Base_grows.m26 : Array Bool := #[true, true, true, true, true, true, true, true, true, true, true, true, true, true, true, true, true, true, true, true, true, true, true, true, true, true, true, true]
abbrev impl_Base_grows.m27 : Array Bool := #[true, true, true, true, true, true, true, true, true, false, false, true, false, false, false, false, false, false, false, false, false, false, false, false, false, false, false, false]
abbrev impl_Base_grows.m28 : Array Bool := #[true, true, true, true, true, true, true, true, true, true, false, true, false, false, false, false, false, false, false, false, false, false, false, false, false, false, false, false]
mutual
def impl_Base_grows.j0 : Nat → Bool → List (S118) → List (S178) → List (S118) → List (S178) → Option (Bool)
 | 0, _, _, _, _, _ => none
 | k + 1, x35, x806000, x806001, x807000, x807001 => if x35 = true then (some false) else (impl_Base_grows.l0 k x807001 (x807001.length : Int) 0 x806000 x806001)
def impl_Base_grows.l0 : Nat → List (S178) → Int → Int → List (S118) → List (S178) → Option (Bool)
 | 0, _, _, _, _, _ => none
 | k + 1, x37, x38, x39, x806000, x806001 => if x39 < x38 then (if 0 ≤ x39 then (if x39 < (x37.length : Int) then (if x39 < (x806001.length : Int) then (if ((rd_T178 x806001 x39).f0).toList = ((rd_T178 x37 x39).f0).toList then (if ((rd_T178 x806001 x39).f2) < ((rd_T178 x37 x39).f2) then (some false) else (if ((rd_T178 x806001 x39).f2) = ((rd_T178 x37 x39).f2) then (if (!((((rd_T178 x806001 x39).f0).toList) == (((rd_T178 x37 x39).f0).toList)) || (!(((rd_T178 x806001 x39).f1) == ((rd_T178 x37 x39).f1)) || (!(((rd_T178 x806001 x39).f2) == ((rd_T178 x37 x39).f2)) || (!(((rd_T178 x806001 x39).f3) == ((rd_T178 x37 x39).f3)))))) = true then (some false) else (impl_Base_grows.l0 k x37 x38 (wrap64 (x39 + 1)) x806000 x806001)) else (impl_Base_grows.l0 k x37 x38 (wrap64 (x39 + 1)) x806000 x806001))) else (some false)) else (none)) else (none)) else (none)) else (some true)
end
def impl_Base_grows.f (k : Nat) (l0_0 : List (S118)) (l0_1 : List (S178)) (l1_0 : List (S118)) (l1_1 : List (S178)) : Option (Bool) := if (l0_0.length : Int) < (l1_0.length : Int) then (impl_Base_grows.j0 k true l0_0 l0_1 l1_0 l1_1) else (if (l0_1.length : Int) < (l1_1.length : Int) then (impl_Base_grows.j0 k true l0_0 l0_1 l1_0 l1_1) else (if 0 ≤ (l1_0.length : Int) then (if (l1_0.length : Int) ≤ (l0_0.length : Int) then ((eqCommits.f l1_0 (l0_0.take ((l1_0.length : Int) : Int).toNat)).bind fun t811 => (impl_Base_grows.j0 k (!t811) l0_0 l0_1 l1_0 l1_1)) else (none)) else (none)))
def impl_Base_grows.T1 : Bool × List (List Nat × List Nat) := (true, [([], []), ([0], [0]), ([1], [1]), ([], []), ([3], [3]), ([4], [4]), ([2, 5], [2, 5]), ([6], [6]), ([7], [7]), ([8, 7], [7, 8]), ([9, 7], [7, 9]), ([7], [7]), ([11, 7], [7, 11]), ([12, 7], [7, 12]), ([10, 13, 7], [7, 10, 13]), ([7, 14], [7, 14]), ([15, 7], [15]), ([16], [16]), ([17, 16], [16, 17]), ([16], [16]), ([19, 16], [16, 19]), ([16], [16]), ([21, 16], [16, 21]), ([22, 16], [16, 22]), ([20, 23, 16], [16, 20, 23]), ([18, 24, 16, 16], [16, 18, 24]), ([25, 16], [16, 25]), ([16, 26], [16, 26])])
def impl_Base_grows.B1 : List Nat := [0, 1, 3, 0, 8, 24, 63, 127, 255, 511, 1023, 255, 2303, 6399, 16383, 32767, 65535, 131071, 262143, 131071, 655359, 131071, 2228223, 6422527, 16383999, 33554431, 67108863, 134217727]
theorem impl_Base_grows.tab1 : rtab .any (opsOf Try.f125 1) = impl_Base_grows.T1 := by kernel_rfl
theorem impl_Base_grows.bits1 : waitsOk impl_Base_grows.T1.2 impl_Base_grows.B1 = true := by kernel_rfl
set_option maxHeartbeats 8000000 in
set_option maxRecDepth 100000 in
theorem impl_Base_grows.calls (k : Nat) (A0_0 : Option Addr) (c0_0 : Nat) (l0_0 : List (S118)) (A0_1 : Option Addr) (c0_1 : Nat) (l0_1 : List (S178)) (A1_0 : Option Addr) (c1_0 : Nat) (l1_0 : List (S118)) (A1_1 : Option Addr) (c1_1 : Nat) (l1_1 : List (S178)) (r : Bool) (w : World) (hr0_0 : Kd.C k118 w A0_0 l0_0.length l0_0) (hc0_0 : l0_0.length ≤ c0_0) (hr0_1 : Kd.C k178 w A0_1 l0_1.length l0_1) (hc0_1 : l0_1.length ≤ c0_1) (hr1_0 : Kd.C k118 w A1_0 l1_0.length l1_0) (hc1_0 : l1_0.length ≤ c1_0) (hr1_1 : Kd.C k178 w A1_1 l1_1.length l1_1) (hc1_1 : l1_1.length ≤ c1_1) (h : impl_Base_grows.f k l0_0 l0_1 l1_0 l1_1 = some r) :
  Calls Try.prog 125 #[.agg #[.slice A0_0 l0_0.length c0_0, .slice A0_1 l0_1.length c0_1], .agg #[.slice A1_0 l1_0.length c1_0, .slice A1_1 l1_1.length c1_1]] w fun e w' => e = .returned (.bool r) ∧ Below w.heap.size w w' := by
 have hu66 := Try.underlying66
 have hu178 := Try.underlying178
 have HR0_0 := Aside0.mk hr0_0
 have HC0_0 := Aside0.mk hc0_0
 clear hr0_0 hc0_0
 have HR0_1 := Aside0.mk hr0_1
 have HC0_1 := Aside0.mk hc0_1
 clear hr0_1 hc0_1
 have HR1_0 := Aside0.mk hr1_0
 have HC1_0 := Aside0.mk hc1_0
 clear hr1_0 hc1_0
 have HR1_1 := Aside0.mk hr1_1
 have HC1_1 := Aside0.mk hc1_1
 clear hr1_1 hc1_1
 have HB := Aside0.mk (Below.refl w.heap.size w)
 have H : (if (l0_0.length : Int) < (l1_0.length : Int) then (impl_Base_grows.j0 k true l0_0 l0_1 l1_0 l1_1) else (if (l0_1.length : Int) < (l1_1.length : Int) then (impl_Base_grows.j0 k true l0_0 l0_1 l1_0 l1_1) else (if 0 ≤ (l1_0.length : Int) then (if (l1_0.length : Int) ≤ (l0_0.length : Int) then ((eqCommits.f l1_0 (l0_0.take ((l1_0.length : Int) : Int).toNat)).bind fun t811 => (impl_Base_grows.j0 k (!t811) l0_0 l0_1 l1_0 l1_1)) else (none)) else (none)))) = some r := h
 clear h
 have HC3 := Aside0.mk H
 clear H
 go_enter Try.func125, Try.ntmps125
 go_upto_region 1 with (first | ((with_reducible refine gate_dst (N := 2) rfl ?_); (try (refine gate_guard (by rfl) ?_; dsimp only)); refine bE (N := 2) (cs := #[.slice A0_0 l0_0.length c0_0, .slice A0_1 l0_1.length c0_1]) (t := 66) ?_; intro gb805 hg w4 hbox hb; have n0_ := Aside0.mk (below_step (w := w) bW hb); have n1_ := Aside0.mk (hbox); have n2_ := Aside0.mk (gS (w := w) hg); have n3_ := n2_; clear HB; have HB := n0_; have BK805 := n1_; have GW805 := n2_; have GE805 := n3_; clear n0_ n1_ n2_ n3_; clear hb hbox hg) | ((with_reducible refine gate_dst (N := 3) rfl ?_); (try (refine gate_guard (by rfl) ?_; dsimp only)); refine bE (N := 3) (cs := #[.slice A1_0 l1_0.length c1_0, .slice A1_1 l1_1.length c1_1]) (t := 66) ?_; intro gb806 hg w5 hbox hb; have n0_ := Aside0.mk (kb BK805 hb); have n1_ := Aside0.mk (below_step (w := w) bW hb); have n2_ := Aside0.mk (hbox); have n3_ := Aside0.mk (gS (w := w) hg); have n4_ := n3_; have n5_ := Aside0.mk (nL BK805 hg); have n6_ := Aside0.mk (nG BK805 hg); clear BK805; clear HB; have BK805 := n0_; have HB := n1_; have BK806 := n2_; have GW806 := n3_; have GE806 := n4_; have NB805_806 := n5_; have NB806_805 := n6_; clear n0_ n1_ n2_ n3_ n4_ n5_ n6_; clear hb hbox hg))
 (try simp only [Act.put, List.setIfInBounds_toArray, List.set_cons_zero, List.set_cons_succ])
 go_cut [35] (fun v35 wc => ∃ (kq : Nat) (x35_2 : Bool), v35 = .bool x35_2 ∧ Aside0 (impl_Base_grows.j0 kq x35_2 l0_0 l0_1 l1_0 l1_1 = some r) ∧ Aside0 (kq ≤ k) ∧ Aside0 (wc.heap[gb805]? = some (.cells #[(.slice A0_0 l0_0.length c0_0), (.slice A0_1 l0_1.length c0_1)] 66 (0, 0))) ∧ Aside0 (wc.heap[gb806]? = some (.cells #[(.slice A1_0 l1_0.length c1_0), (.slice A1_1 l1_1.length c1_1)] 66 (0, 0))) ∧ Aside0 (Below w.heap.size w wc))
 case first =>
  have H := HC3.out
  clear HC3
  by_cases c6 : (l0_0.length : Int) < (l1_0.length : Int)
  ·rw [if_pos c6] at H
   have c6b0 : decide ((l0_0.length : Int) < (l1_0.length : Int)) = true := decide_eq_true c6
   have c6b1 : decide (l0_0.length < l1_0.length) = true := decide_eq_true (Int.ofNat_lt.mp c6)
   clear c6
   (first | rw [c6b0] | (simp only [i64_w, i32_w]; rw [c6b0]) | skip)
   have H' := Aside0.mk H
   clear H
   try go_wp2
   have n0_ := Aside0.mk (blk_drew BK805.out)
   have n1_ := Aside0.mk (blk_drew BK806.out)
   have n2_ := Aside0.mk (below_drew1 HB.out)
   clear BK805
   clear BK806
   clear HB
   have BK805 := n0_
   have BK806 := n1_
   have HB := n2_
   clear n0_ n1_ n2_
   refine start_ (n := 28) (S := fun w' => w'.cell? ⟨gb805, 0, none⟩ = some (.slice A0_0 l0_0.length c0_0) ∧ w'.cell? ⟨gb805, 1, none⟩ = some (.slice A0_1 l0_1.length c0_1) ∧ w'.cell? ⟨gb806, 0, none⟩ = some (.slice A1_0 l1_0.length c1_0) ∧ w'.cell? ⟨gb806, 1, none⟩ = some (.slice A1_1 l1_1.length c1_1)) (ds := []) impl_Base_grows.m0 (by kernel_rfl) rfl rfl ⟨(blk_cell BK805.out 0).trans rfl, (blk_cell BK805.out 1).trans rfl, (blk_cell BK806.out 0).trans rfl, (blk_cell BK806.out 1).trans rfl⟩ (fun hHeld => ?_); refine with_tabW impl_Base_grows.tab1 impl_Base_grows.bits1 (fun HT_ HW_ => ?_)
   generalize w5.drew = w7 at BK805 BK806 HB hHeld ⊢
   refine pure_ (i := 0) (N := some 8) (v := ?_) (a' := ?_) impl_Base_grows.m1 rfl rfl (any_of HT_.out (by kernel_rfl)) (fun _ _ _ h => h) (Or.inl ⟨by rfl, ?_⟩) ?_ ?_; rotate_left; (focus intro w'; go_simp; with_reducible rfl); rotate_left; (focus simp only [pt, i64_w, i32_w]; rfl)
   refine pure_ (i := 3) (N := some 11) (v := ?_) (a' := ?_) impl_Base_grows.m2 rfl rfl (any_of HT_.out (by kernel_rfl)) (fun _ _ _ h => h) (Or.inl ⟨by rfl, ?_⟩) ?_ ?_; rotate_left; (focus intro w'; go_simp; with_reducible rfl); rotate_left; (focus simp only [pt, i64_w, i32_w]; rfl)
   refine take_ (i := 1) (N := some 9) (v := ?_) (a' := ?_) impl_Base_grows.m3 rfl rfl (take_ofW HT_.out HW_.out (by kernel_rfl)) (fun _ _ _ h => h) (Or.inl ⟨by rfl, ?_⟩) hHeld ?_ ?_; rotate_left; (focus rintro w' ⟨s0, s1, s2, s3⟩; go_simp; with_reducible rfl); rotate_left; (focus simp only [pt, i64_w, i32_w]; rfl)
   refine pure_ (i := 2) (N := some 10) (v := ?_) (a' := ?_) impl_Base_grows.m4 rfl rfl (any_of HT_.out (by kernel_rfl)) (fun _ _ _ h => h) (Or.inl ⟨by rfl, ?_⟩) ?_ ?_; rotate_left; (focus intro w'; go_simp; with_reducible rfl); rotate_left; (focus simp only [pt, i64_w, i32_w]; rfl)
   refine take_ (i := 4) (N := some 12) (v := ?_) (a' := ?_) impl_Base_grows.m5 rfl rfl (take_ofW HT_.out HW_.out (by kernel_rfl)) (fun _ _ _ h => h) (Or.inl ⟨by rfl, ?_⟩) hHeld ?_ ?_; rotate_left; (focus rintro w' ⟨s0, s1, s2, s3⟩; go_simp; with_reducible rfl); rotate_left; (focus simp only [pt, i64_w, i32_w]; rfl)
   refine pure_ (i := 5) (N := some 13) (v := ?_) (a' := ?_) impl_Base_grows.m6 rfl rfl (any_of HT_.out (by kernel_rfl)) (fun _ _ _ h => h) (Or.inl ⟨by rfl, ?_⟩) ?_ ?_; rotate_left; (focus intro w'; go_simp; with_reducible rfl); rotate_left; (focus simp only [pt, i64_w, i32_w]; rfl)
   refine pure_ (i := 6) (N := some 14) (v := ?_) (a' := ?_) impl_Base_grows.m7 rfl rfl (any_of HT_.out (by kernel_rfl)) (fun _ _ _ h => h) (Or.inl ⟨by rfl, ?_⟩) ?_ ?_; rotate_left; (focus intro w'; go_simp; with_reducible rfl); rotate_left; (focus simp only [pt, i64_w, i32_w]; rfl)
   refine pure_ (i := 7) (N := some 15) (v := ?_) (a' := ?_) impl_Base_grows.m8 rfl rfl (any_of HT_.out (by kernel_rfl)) (fun _ _ _ h => h) (Or.inl ⟨by rfl, ?_⟩) ?_ ?_; rotate_left; (focus intro w'; go_simp; with_reducible rfl); rotate_left; (focus simp only [pt, i64_w, i32_w]; rfl)
   refine pure_ (i := 8) (N := some 16) (v := undef) (a' := ?_) impl_Base_grows.m9 rfl rfl (any_of HT_.out (by kernel_rfl)) (fun _ _ _ h => h) (Or.inr ⟨by rfl, rfl⟩) ?_ ?_; rotate_left; (focus simp only [pt, i64_w, i32_w]; rfl)
   refine pure_ (i := 9) (N := some 17) (v := undef) (a' := ?_) #[true, true, true, true, true, true, true, true, true, true, false, false, false, false, false, false, false, false, false, false, false, false, false, false, false, false, false, false] rfl rfl (any_of HT_.out (by kernel_rfl)) (fun _ _ _ h => h) (Or.inr ⟨by rfl, rfl⟩) ?_ ?_; rotate_left; (focus simp only [pt, i64_w, i32_w]; rfl)
   refine pure_ (i := 10) (N := some 18) (v := undef) (a' := ?_) #[true, true, true, true, true, true, true, true, true, true, true, false, false, false, false, false, false, false, false, false, false, false, false, false, false, false, false, false] rfl rfl (any_of HT_.out (by kernel_rfl)) (fun _ _ _ h => h) (Or.inr ⟨by rfl, rfl⟩) ?_ ?_; rotate_left; (focus simp only [pt, i64_w, i32_w]; rfl)
   refine pure_ (i := 11) (N := some 19) (v := undef) (a' := ?_) impl_Base_grows.m10 rfl rfl (any_of HT_.out (by kernel_rfl)) (fun _ _ _ h => h) (Or.inr ⟨by rfl, rfl⟩) ?_ ?_; rotate_left; (focus simp only [pt, i64_w, i32_w]; rfl)
   refine pure_ (i := 12) (N := some 20) (v := undef) (a' := ?_) impl_Base_grows.m11 rfl rfl (any_of HT_.out (by kernel_rfl)) (fun _ _ _ h => h) (Or.inr ⟨by rfl, rfl⟩) ?_ ?_; rotate_left; (focus simp only [pt, i64_w, i32_w]; rfl)
   refine pure_ (i := 13) (N := some 21) (v := undef) (a' := ?_) impl_Base_grows.m12 rfl rfl (any_of HT_.out (by kernel_rfl)) (fun _ _ _ h => h) (Or.inr ⟨by rfl, rfl⟩) ?_ ?_; rotate_left; (focus simp only [pt, i64_w, i32_w]; rfl)
   refine pure_ (i := 14) (N := some 22) (v := undef) (a' := ?_) impl_Base_grows.m13 rfl rfl (any_of HT_.out (by kernel_rfl)) (fun _ _ _ h => h) (Or.inr ⟨by rfl, rfl⟩) ?_ ?_; rotate_left; (focus simp only [pt, i64_w, i32_w]; rfl)
   refine pure_ (i := 15) (N := some 23) (v := ?_) (a' := ?_) impl_Base_grows.m14 rfl rfl (any_of HT_.out (by kernel_rfl)) (fun _ _ _ h => h) (Or.inl ⟨by rfl, ?_⟩) ?_ ?_; rotate_left; (focus intro w'; go_simp; with_reducible rfl); rotate_left; (focus simp only [pt, i64_w, i32_w]; rfl)
   refine pure_ (i := 16) (N := some 24) (v := ?_) (a' := ?_) impl_Base_grows.m15 rfl rfl (any_of HT_.out (by kernel_rfl)) (fun _ _ _ h => h) (Or.inl ⟨by rfl, ?_⟩) ?_ ?_; rotate_left; (focus intro w'; go_simp; with_reducible rfl); rotate_left; (focus simp only [pt, i64_w, i32_w]; rfl)
   refine pure_ (i := 17) (N := some 25) (v := undef) (a' := ?_) impl_Base_grows.m16 rfl rfl (any_of HT_.out (by kernel_rfl)) (fun _ _ _ h => h) (Or.inr ⟨by rfl, rfl⟩) ?_ ?_; rotate_left; (focus simp only [pt, i64_w, i32_w]; rfl)
   refine pure_ (i := 18) (N := some 26) (v := undef) (a' := ?_) impl_Base_grows.m17 rfl rfl (any_of HT_.out (by kernel_rfl)) (fun _ _ _ h => h) (Or.inr ⟨by rfl, rfl⟩) ?_ ?_; rotate_left; (focus simp only [pt, i64_w, i32_w]; rfl)
   refine pure_ (i := 19) (N := some 27) (v := undef) (a' := ?_) impl_Base_grows.m18 rfl rfl (any_of HT_.out (by kernel_rfl)) (fun _ _ _ h => h) (Or.inr ⟨by rfl, rfl⟩) ?_ ?_; rotate_left; (focus simp only [pt, i64_w, i32_w]; rfl)
   refine pure_ (i := 20) (N := some 28) (v := undef) (a' := ?_) impl_Base_grows.m19 rfl rfl (any_of HT_.out (by kernel_rfl)) (fun _ _ _ h => h) (Or.inr ⟨by rfl, rfl⟩) ?_ ?_; rotate_left; (focus simp only [pt, i64_w, i32_w]; rfl)
   refine pure_ (i := 21) (N := some 29) (v := undef) (a' := ?_) impl_Base_grows.m20 rfl rfl (any_of HT_.out (by kernel_rfl)) (fun _ _ _ h => h) (Or.inr ⟨by rfl, rfl⟩) ?_ ?_; rotate_left; (focus simp only [pt, i64_w, i32_w]; rfl)
   refine pure_ (i := 22) (N := some 30) (v := undef) (a' := ?_) impl_Base_grows.m21 rfl rfl (any_of HT_.out (by kernel_rfl)) (fun _ _ _ h => h) (Or.inr ⟨by rfl, rfl⟩) ?_ ?_; rotate_left; (focus simp only [pt, i64_w, i32_w]; rfl)
   refine pure_ (i := 23) (N := some 31) (v := undef) (a' := ?_) impl_Base_grows.m22 rfl rfl (any_of HT_.out (by kernel_rfl)) (fun _ _ _ h => h) (Or.inr ⟨by rfl, rfl⟩) ?_ ?_; rotate_left; (focus simp only [pt, i64_w, i32_w]; rfl)
   refine pure_ (i := 24) (N := some 32) (v := undef) (a' := ?_) impl_Base_grows.m23 rfl rfl (any_of HT_.out (by kernel_rfl)) (fun _ _ _ h => h) (Or.inr ⟨by rfl, rfl⟩) ?_ ?_; rotate_left; (focus simp only [pt, i64_w, i32_w]; rfl)
   refine pure_ (i := 25) (N := some 33) (v := undef) (a' := ?_) impl_Base_grows.m24 rfl rfl (any_of HT_.out (by kernel_rfl)) (fun _ _ _ h => h) (Or.inr ⟨by rfl, rfl⟩) ?_ ?_; rotate_left; (focus simp only [pt, i64_w, i32_w]; rfl)
   refine pure_ (i := 26) (N := some 34) (v := undef) (a' := ?_) impl_Base_grows.m25 rfl rfl (any_of HT_.out (by kernel_rfl)) (fun _ _ _ h => h) (Or.inr ⟨by rfl, rfl⟩) ?_ ?_; rotate_left; (focus simp only [pt, i64_w, i32_w]; rfl)
   refine pure_ (i := 27) (N := some 35) (v := ?_) (a' := ?_) impl_Base_grows.m26 rfl rfl (any_of HT_.out (by kernel_rfl)) (fun _ _ _ h => h) (Or.inl ⟨by rfl, ?_⟩) ?_ ?_; rotate_left; (focus intro w'; go_simp; with_reducible rfl); rotate_left; (focus simp only [pt, i64_w, i32_w]; rfl)
   refine done_ (done_of HT_.out (by kernel_rfl)) ?_
   try go_wp2
   go_meet
   case rel => exact ⟨_, (true), vE, H', ⟨by first | omega | exact Nat.le_refl _⟩, ⟨by (with_reducible repeat (first | refine blk_drewN ?_ _ | refine blk_drew ?_ | refine blk_alloc ?_ _)); exact BK805.out⟩, ⟨by (with_reducible repeat (first | refine blk_drewN ?_ _ | refine blk_drew ?_ | refine blk_alloc ?_ _)); exact BK806.out⟩, ⟨bW⟩⟩
  ·rw [if_neg c6] at H
   have c6b0 : decide ((l0_0.length : Int) < (l1_0.length : Int)) = false := decide_eq_false c6
   have c6b1 : decide (l0_0.length < l1_0.length) = false := decide_eq_false (fun h => c6 (Int.ofNat_lt.mpr h))
   clear c6
   (first | rw [c6b0] | (simp only [i64_w, i32_w]; rw [c6b0]) | skip)
   by_cases c8 : (l0_1.length : Int) < (l1_1.length : Int)
   ·rw [if_pos c8] at H
    have c8b0 : decide ((l0_1.length : Int) < (l1_1.length : Int)) = true := decide_eq_true c8
    have c8b1 : decide (l0_1.length < l1_1.length) = true := decide_eq_true (Int.ofNat_lt.mp c8)
    clear c8
    have H' := Aside0.mk H
    clear H
    try go_wp2
    have n0_ := Aside0.mk (blk_drew BK805.out)
    have n1_ := Aside0.mk (blk_drew BK806.out)
    have n2_ := Aside0.mk (below_drew1 HB.out)
    clear BK805
    clear BK806
    clear HB
    have BK805 := n0_
    have BK806 := n1_
    have HB := n2_
    clear n0_ n1_ n2_
    refine start_ (n := 28) (S := fun w' => w'.cell? ⟨gb805, 0, none⟩ = some (.slice A0_0 l0_0.length c0_0) ∧ w'.cell? ⟨gb805, 1, none⟩ = some (.slice A0_1 l0_1.length c0_1) ∧ w'.cell? ⟨gb806, 0, none⟩ = some (.slice A1_0 l1_0.length c1_0) ∧ w'.cell? ⟨gb806, 1, none⟩ = some (.slice A1_1 l1_1.length c1_1)) (ds := []) impl_Base_grows.m0 (by kernel_rfl) rfl rfl ⟨(blk_cell BK805.out 0).trans rfl, (blk_cell BK805.out 1).trans rfl, (blk_cell BK806.out 0).trans rfl, (blk_cell BK806.out 1).trans rfl⟩ (fun hHeld => ?_); refine with_tabW impl_Base_grows.tab1 impl_Base_grows.bits1 (fun HT_ HW_ => ?_)
    generalize w5.drew = w9 at BK805 BK806 HB hHeld ⊢
    refine pure_ (i := 0) (N := some 8) (v := ?_) (a' := ?_) impl_Base_grows.m1 rfl rfl (any_of HT_.out (by kernel_rfl)) (fun _ _ _ h => h) (Or.inl ⟨by rfl, ?_⟩) ?_ ?_; rotate_left; (focus intro w'; go_simp; with_reducible rfl); rotate_left; (focus simp only [pt, i64_w, i32_w]; rfl)
    refine pure_ (i := 3) (N := some 11) (v := ?_) (a' := ?_) impl_Base_grows.m2 rfl rfl (any_of HT_.out (by kernel_rfl)) (fun _ _ _ h => h) (Or.inl ⟨by rfl, ?_⟩) ?_ ?_; rotate_left; (focus intro w'; go_simp; with_reducible rfl); rotate_left; (focus simp only [pt, i64_w, i32_w]; rfl)
    refine take_ (i := 1) (N := some 9) (v := ?_) (a' := ?_) impl_Base_grows.m3 rfl rfl (take_ofW HT_.out HW_.out (by kernel_rfl)) (fun _ _ _ h => h) (Or.inl ⟨by rfl, ?_⟩) hHeld ?_ ?_; rotate_left; (focus rintro w' ⟨s0, s1, s2, s3⟩; go_simp; with_reducible rfl); rotate_left; (focus simp only [pt, i64_w, i32_w]; rfl)
    refine pure_ (i := 2) (N := some 10) (v := ?_) (a' := ?_) impl_Base_grows.m4 rfl rfl (any_of HT_.out (by kernel_rfl)) (fun _ _ _ h => h) (Or.inl ⟨by rfl, ?_⟩) ?_ ?_; rotate_left; (focus intro w'; go_simp; with_reducible rfl); rotate_left; (focus simp only [pt, i64_w, i32_w]; rfl)
    refine take_ (i := 4) (N := some 12) (v := ?_) (a' := ?_) impl_Base_grows.m5 rfl rfl (take_ofW HT_.out HW_.out (by kernel_rfl)) (fun _ _ _ h => h) (Or.inl ⟨by rfl, ?_⟩) hHeld ?_ ?_; rotate_left; (focus rintro w' ⟨s0, s1, s2, s3⟩; go_simp; with_reducible rfl); rotate_left; (focus simp only [pt, i64_w, i32_w]; rfl)
    refine pure_ (i := 5) (N := some 13) (v := ?_) (a' := ?_) impl_Base_grows.m6 rfl rfl (any_of HT_.out (by kernel_rfl)) (fun _ _ _ h => h) (Or.inl ⟨by rfl, ?_⟩) ?_ ?_; rotate_left; (focus intro w'; go_simp; with_reducible rfl); rotate_left; (focus simp only [pt, i64_w, i32_w]; rfl)
    refine pure_ (i := 6) (N := some 14) (v := ?_) (a' := ?_) impl_Base_grows.m7 rfl rfl (any_of HT_.out (by kernel_rfl)) (fun _ _ _ h => h) (Or.inl ⟨by rfl, ?_⟩) ?_ ?_; rotate_left; (focus intro w'; go_simp; with_reducible rfl); rotate_left; (focus simp only [pt, i64_w, i32_w]; rfl)
    refine pure_ (i := 7) (N := some 15) (v := ?_) (a' := ?_) impl_Base_grows.m8 rfl rfl (any_of HT_.out (by kernel_rfl)) (fun _ _ _ h => h) (Or.inl ⟨by rfl, ?_⟩) ?_ ?_; rotate_left; (focus intro w'; go_simp; with_reducible rfl); rotate_left; (focus simp only [pt, i64_w, i32_w]; rfl)
    refine pure_ (i := 8) (N := some 16) (v := ?_) (a' := ?_) impl_Base_grows.m9 rfl rfl (any_of HT_.out (by kernel_rfl)) (fun _ _ _ h => h) (Or.inl ⟨by rfl, ?_⟩) ?_ ?_; rotate_left; (focus intro w'; go_simp; with_reducible rfl); rotate_left; (focus simp only [pt, i64_w, i32_w]; rfl)
    refine pure_ (i := 11) (N := some 19) (v := ?_) (a' := ?_) impl_Base_grows.m27 rfl rfl (any_of HT_.out (by kernel_rfl)) (fun _ _ _ h => h) (Or.inl ⟨by rfl, ?_⟩) ?_ ?_; rotate_left; (focus intro w'; go_simp; with_reducible rfl); rotate_left; (focus simp only [pt, i64_w, i32_w]; rfl)
    refine take_ (i := 9) (N := some 17) (v := ?_) (a' := ?_) impl_Base_grows.m28 rfl rfl (take_ofW HT_.out HW_.out (by kernel_rfl)) (fun _ _ _ h => h) (Or.inl ⟨by rfl, ?_⟩) hHeld ?_ ?_; rotate_left; (focus rintro w' ⟨s0, s1, s2, s3⟩; go_simp; with_reducible rfl); rotate_left; (focus simp only [pt, i64_w, i32_w]; rfl)
    refine pure_ (i := 10) (N := some 18) (v := ?_) (a' := ?_) impl_Base_grows.m10 rfl rfl (any_of HT_.out (by kernel_rfl)) (fun _ _ _ h => h) (Or.inl ⟨by rfl, ?_⟩) ?_ ?_; rotate_left; (focus intro w'; go_simp; with_reducible rfl); rotate_left; (focus simp only [pt, i64_w, i32_w]; rfl)
    refine take_ (i := 12) (N := some 20) (v := ?_) (a' := ?_) impl_Base_grows.m11 rfl rfl (take_ofW HT_.out HW_.out (by kernel_rfl)) (fun _ _ _ h => h) (Or.inl ⟨by rfl, ?_⟩) hHeld ?_ ?_; rotate_left; (focus rintro w' ⟨s0, s1, s2, s3⟩; go_simp; with_reducible rfl); rotate_left; (focus simp only [pt, i64_w, i32_w]; rfl)
    refine pure_ (i := 13) (N := some 21) (v := ?_) (a' := ?_) impl_Base_grows.m12 rfl rfl (any_of HT_.out (by kernel_rfl)) (fun _ _ _ h => h) (Or.inl ⟨by rfl, ?_⟩) ?_ ?_; rotate_left; (focus intro w'; go_simp; with_reducible rfl); rotate_left; (focus simp only [pt, i64_w, i32_w]; rfl)
    refine pure_ (i := 14) (N := some 22) (v := ?_) (a' := ?_) impl_Base_grows.m13 rfl rfl (any_of HT_.out (by kernel_rfl)) (fun _ _ _ h => h) (Or.inl ⟨by rfl, ?_⟩) ?_ ?_; rotate_left; (focus intro w'; go_simp; with_reducible rfl); rotate_left; (focus simp only [pt, i64_w, i32_w]; rfl)
    refine pure_ (i := 15) (N := some 23) (v := ?_) (a' := ?_) impl_Base_grows.m14 rfl rfl (any_of HT_.out (by kernel_rfl)) (fun _ _ _ h => h) (Or.inl ⟨by rfl, ?_⟩) ?_ ?_; rotate_left; (focus intro w'; go_simp; with_reducible rfl); rotate_left; (focus simp only [pt, i64_w, i32_w]; rfl)
    refine pure_ (i := 16) (N := some 24) (v := ?_) (a' := ?_) impl_Base_grows.m15 rfl rfl (any_of HT_.out (by kernel_rfl)) (fun _ _ _ h => h) (Or.inl ⟨by rfl, ?_⟩) ?_ ?_; rotate_left; (focus intro w'; go_simp; with_reducible rfl); rotate_left; (focus simp only [pt, i64_w, i32_w]; rfl)
    refine pure_ (i := 17) (N := some 25) (v := undef) (a' := ?_) impl_Base_grows.m16 rfl rfl (any_of HT_.out (by kernel_rfl)) (fun _ _ _ h => h) (Or.inr ⟨by rfl, rfl⟩) ?_ ?_; rotate_left; (focus simp only [pt, i64_w, i32_w]; rfl)
    refine pure_ (i := 18) (N := some 26) (v := undef) (a' := ?_) impl_Base_grows.m17 rfl rfl (any_of HT_.out (by kernel_rfl)) (fun _ _ _ h => h) (Or.inr ⟨by rfl, rfl⟩) ?_ ?_; rotate_left; (focus simp only [pt, i64_w, i32_w]; rfl)
    refine pure_ (i := 19) (N := some 27) (v := undef) (a' := ?_) impl_Base_grows.m18 rfl rfl (any_of HT_.out (by kernel_rfl)) (fun _ _ _ h => h) (Or.inr ⟨by rfl, rfl⟩) ?_ ?_; rotate_left; (focus simp only [pt, i64_w, i32_w]; rfl)
    refine pure_ (i := 20) (N := some 28) (v := undef) (a' := ?_) impl_Base_grows.m19 rfl rfl (any_of HT_.out (by kernel_rfl)) (fun _ _ _ h => h) (Or.inr ⟨by rfl, rfl⟩) ?_ ?_; rotate_left; (focus simp only [pt, i64_w, i32_w]; rfl)
    refine pure_ (i := 21) (N := some 29) (v := undef) (a' := ?_) impl_Base_grows.m20 rfl rfl (any_of HT_.out (by kernel_rfl)) (fun _ _ _ h => h) (Or.inr ⟨by rfl, rfl⟩) ?_ ?_; rotate_left; (focus simp only [pt, i64_w, i32_w]; rfl)
    refine pure_ (i := 22) (N := some 30) (v := undef) (a' := ?_) impl_Base_grows.m21 rfl rfl (any_of HT_.out (by kernel_rfl)) (fun _ _ _ h => h) (Or.inr ⟨by rfl, rfl⟩) ?_ ?_; rotate_left; (focus simp only [pt, i64_w, i32_w]; rfl)
    refine pure_ (i := 23) (N := some 31) (v := undef) (a' := ?_) impl_Base_grows.m22 rfl rfl (any_of HT_.out (by kernel_rfl)) (fun _ _ _ h => h) (Or.inr ⟨by rfl, rfl⟩) ?_ ?_; rotate_left; (focus simp only [pt, i64_w, i32_w]; rfl)
    refine pure_ (i := 24) (N := some 32) (v := undef) (a' := ?_) impl_Base_grows.m23 rfl rfl (any_of HT_.out (by kernel_rfl)) (fun _ _ _ h => h) (Or.inr ⟨by rfl, rfl⟩) ?_ ?_; rotate_left; (focus simp only [pt, i64_w, i32_w]; rfl)
    refine pure_ (i := 25) (N := some 33) (v := undef) (a' := ?_) impl_Base_grows.m24 rfl rfl (any_of HT_.out (by kernel_rfl)) (fun _ _ _ h => h) (Or.inr ⟨by rfl, rfl⟩) ?_ ?_; rotate_left; (focus simp only [pt, i64_w, i32_w]; rfl)
    refine pure_ (i := 26) (N := some 34) (v := undef) (a' := ?_) impl_Base_grows.m25 rfl rfl (any_of HT_.out (by kernel_rfl)) (fun _ _ _ h => h) (Or.inr ⟨by rfl, rfl⟩) ?_ ?_; rotate_left; (focus simp only [pt, i64_w, i32_w]; rfl)
    refine pure_ (i := 27) (N := some 35) (v := ?_) (a' := ?_) impl_Base_grows.m26 rfl rfl (any_of HT_.out (by kernel_rfl)) (fun _ _ _ h => h) (Or.inl ⟨by rfl, ?_⟩) ?_ ?_; rotate_left; (focus intro w'; go_simp; with_reducible rfl); rotate_left; (focus simp only [pt, i64_w, i32_w]; rfl)
    refine done_ (done_of HT_.out (by kernel_rfl)) ?_
    try go_wp2
    go_meet
    case rel => exact ⟨_, (true), vE, H', ⟨by first | omega | exact Nat.le_refl _⟩, ⟨by (with_reducible repeat (first | refine blk_drewN ?_ _ | refine blk_drew ?_ | refine blk_alloc ?_ _)); exact BK805.out⟩, ⟨by (with_reducible repeat (first | refine blk_drewN ?_ _ | refine blk_drew ?_ | refine blk_alloc ?_ _)); exact BK806.out⟩, ⟨bW⟩⟩
   ·rw [if_neg c8] at H
    have c8b0 : decide ((l0_1.length : Int) < (l1_1.length : Int)) = false := decide_eq_false c8
    have c8b1 : decide (l0_1.length < l1_1.length) = false := decide_eq_false (fun h => c8 (Int.ofNat_lt.mpr h))
    clear c8
    by_cases c10 : 0 ≤ (l1_0.length : Int)
    ·rw [if_pos c10] at H
     have c10b0 := eq_true c10
     have c10b1 : decide (0 ≤ (l1_0.length : Int)) = true := decide_eq_true c10
     clear c10
     by_cases c11 : (l1_0.length : Int) ≤ (l0_0.length : Int)
     ·rw [if_pos c11] at H
      have c11b0 := eq_true c11
      have c11b1 : decide ((l1_0.length : Int) ≤ (l0_0.length : Int)) = true := decide_eq_true c11
      clear c11
      obtain ⟨y807, hy807⟩ : ∃ y_ : List (S118), y_ = (l0_0.take ((l1_0.length : Int) : Int).toNat) := ⟨_, rfl⟩
      replace H : ((eqCommits.f l1_0 y807).bind fun t811 => (impl_Base_grows.j0 k (!t811) l0_0 l0_1 l1_0 l1_1)) = some r := by first | (rw [hy807]; with_reducible exact H) | (have H2_ := (Option.bind_some _ _).symm.trans H; rw [hy807]; with_reducible exact H2_) | (have H2_ := (Option.bind_some _ _).symm.trans H; with_reducible exact H2_) | with_reducible exact H | (rw [hy807]; exact H) | exact H
      have Ny807 := Aside0.mk hy807
      clear hy807
      replace H := Option.bind_eq_some_iff.mp H
      obtain ⟨t811, A120, H⟩ := H
      replace H : (impl_Base_grows.j0 k (!t811) l0_0 l0_1 l1_0 l1_1) = some r := H
      have A12 := Aside0.mk A120
      clear A120
      have H' := Aside0.mk H
      clear H
      try go_wp2
      have n0_ := Aside0.mk (blk_drew BK805.out)
      have n1_ := Aside0.mk (blk_drew BK806.out)
      have n2_ := Aside0.mk (below_drew1 HB.out)
      clear BK805
      clear BK806
      clear HB
      have BK805 := n0_
      have BK806 := n1_
      have HB := n2_
      clear n0_ n1_ n2_
      have q14 : ((l1_0.length : Int) : Int) ≤ ((l0_0.length : Int) : Int) := odt
      obtain ⟨i014, hi014, _, hsz14, _⟩ := info_parts info118
      have hroom14 : l0_0.length ≤ c0_0 := HC0_0.out
      have hC14 : Kd.C k118 _ A0_0 l0_0.length l0_0 := HR0_0.out
      have hcut14 := cut_to (P := Try.prog) 63 118 .i64 Try.underlying63 hi014 A0_0 l0_0.length c0_0 (l1_0.length : Int) (odt) q14 hroom14
      have hr14 := Kd.C_take (m := ((l1_0.length : Int) : Int).toNat) hC14 (by omega)
      have hy14 : y807.length = ((l1_0.length : Int) : Int).toNat := (by rw [Ny807.out, List.length_take]; omega)
      rw [← Ny807.out] at hr14
      rw [← hy14] at hcut14
      have HR810 := Aside0.mk hr14
      have HC810 := Aside0.mk (show y807.length ≤ c0_0 from by omega)
      clear hr14 hC14 hroom14 hi014 hsz14
      have KY14 := Aside0.mk hy14
      clear hy14
      replace q14 := eq_true q14
      refine start_ (n := 28) (S := fun w' => w'.cell? ⟨gb805, 0, none⟩ = some (.slice A0_0 l0_0.length c0_0) ∧ w'.cell? ⟨gb805, 1, none⟩ = some (.slice A0_1 l0_1.length c0_1) ∧ w'.cell? ⟨gb806, 0, none⟩ = some (.slice A1_0 l1_0.length c1_0) ∧ w'.cell? ⟨gb806, 1, none⟩ = some (.slice A1_1 l1_1.length c1_1)) (ds := []) impl_Base_grows.m0 (by kernel_rfl) rfl rfl ⟨(blk_cell BK805.out 0).trans rfl, (blk_cell BK805.out 1).trans rfl, (blk_cell BK806.out 0).trans rfl, (blk_cell BK806.out 1).trans rfl⟩ (fun hHeld => ?_); refine with_tabW impl_Base_grows.tab1 impl_Base_grows.bits1 (fun HT_ HW_ => ?_)
      generalize w5.drew = w13 at BK805 BK806 HB HR810 hHeld ⊢
      refine pure_ (i := 0) (N := some 8) (v := ?_) (a' := ?_) impl_Base_grows.m1 rfl rfl (any_of HT_.out (by kernel_rfl)) (fun _ _ _ h => h) (Or.inl ⟨by rfl, ?_⟩) ?_ ?_; rotate_left; (focus intro w'; go_simp; with_reducible rfl); rotate_left; (focus simp only [pt, i64_w, i32_w]; rfl)
      refine pure_ (i := 3) (N := some 11) (v := ?_) (a' := ?_) impl_Base_grows.m2 rfl rfl (any_of HT_.out (by kernel_rfl)) (fun _ _ _ h => h) (Or.inl ⟨by rfl, ?_⟩) ?_ ?_; rotate_left; (focus intro w'; go_simp; with_reducible rfl); rotate_left; (focus simp only [pt, i64_w, i32_w]; rfl)
      refine take_ (i := 1) (N := some 9) (v := ?_) (a' := ?_) impl_Base_grows.m3 rfl rfl (take_ofW HT_.out HW_.out (by kernel_rfl)) (fun _ _ _ h => h) (Or.inl ⟨by rfl, ?_⟩) hHeld ?_ ?_; rotate_left; (focus rintro w' ⟨s0, s1, s2, s3⟩; go_simp; with_reducible rfl); rotate_left; (focus simp only [pt, i64_w, i32_w]; rfl)
      refine pure_ (i := 2) (N := some 10) (v := ?_) (a' := ?_) impl_Base_grows.m4 rfl rfl (any_of HT_.out (by kernel_rfl)) (fun _ _ _ h => h) (Or.inl ⟨by rfl, ?_⟩) ?_ ?_; rotate_left; (focus intro w'; go_simp; with_reducible rfl); rotate_left; (focus simp only [pt, i64_w, i32_w]; rfl)
      refine take_ (i := 4) (N := some 12) (v := ?_) (a' := ?_) impl_Base_grows.m5 rfl rfl (take_ofW HT_.out HW_.out (by kernel_rfl)) (fun _ _ _ h => h) (Or.inl ⟨by rfl, ?_⟩) hHeld ?_ ?_; rotate_left; (focus rintro w' ⟨s0, s1, s2, s3⟩; go_simp; with_reducible rfl); rotate_left; (focus simp only [pt, i64_w, i32_w]; rfl)
      refine pure_ (i := 5) (N := some 13) (v := ?_) (a' := ?_) impl_Base_grows.m6 rfl rfl (any_of HT_.out (by kernel_rfl)) (fun _ _ _ h => h) (Or.inl ⟨by rfl, ?_⟩) ?_ ?_; rotate_left; (focus intro w'; go_simp; with_reducible rfl); rotate_left; (focus simp only [pt, i64_w, i32_w]; rfl)
      refine pure_ (i := 6) (N := some 14) (v := ?_) (a' := ?_) impl_Base_grows.m7 rfl rfl (any_of HT_.out (by kernel_rfl)) (fun _ _ _ h => h) (Or.inl ⟨by rfl, ?_⟩) ?_ ?_; rotate_left; (focus intro w'; go_simp; with_reducible rfl); rotate_left; (focus simp only [pt, i64_w, i32_w]; rfl)
      refine pure_ (i := 7) (N := some 15) (v := ?_) (a' := ?_) impl_Base_grows.m8 rfl rfl (any_of HT_.out (by kernel_rfl)) (fun _ _ _ h => h) (Or.inl ⟨by rfl, ?_⟩) ?_ ?_; rotate_left; (focus intro w'; go_simp; with_reducible rfl); rotate_left; (focus simp only [pt, i64_w, i32_w]; rfl)
      refine pure_ (i := 8) (N := some 16) (v := ?_) (a' := ?_) impl_Base_grows.m9 rfl rfl (any_of HT_.out (by kernel_rfl)) (fun _ _ _ h => h) (Or.inl ⟨by rfl, ?_⟩) ?_ ?_; rotate_left; (focus intro w'; go_simp; with_reducible rfl); rotate_left; (focus simp only [pt, i64_w, i32_w]; rfl)
      refine pure_ (i := 11) (N := some 19) (v := ?_) (a' := ?_) impl_Base_grows.m27 rfl rfl (any_of HT_.out (by kernel_rfl)) (fun _ _ _ h => h) (Or.inl ⟨by rfl, ?_⟩) ?_ ?_; rotate_left; (focus intro w'; go_simp; with_reducible rfl); rotate_left; (focus simp only [pt, i64_w, i32_w]; rfl)
      refine take_ (i := 9) (N := some 17) (v := ?_) (a' := ?_) impl_Base_grows.m28 rfl rfl (take_ofW HT_.out HW_.out (by kernel_rfl)) (fun _ _ _ h => h) (Or.inl ⟨by rfl, ?_⟩) hHeld ?_ ?_; rotate_left; (focus rintro w' ⟨s0, s1, s2, s3⟩; go_simp; with_reducible rfl); rotate_left; (focus simp only [pt, i64_w, i32_w]; rfl)
      refine pure_ (i := 10) (N := some 18) (v := ?_) (a' := ?_) impl_Base_grows.m10 rfl rfl (any_of HT_.out (by kernel_rfl)) (fun _ _ _ h => h) (Or.inl ⟨by rfl, ?_⟩) ?_ ?_; rotate_left; (focus intro w'; go_simp; with_reducible rfl); rotate_left; (focus simp only [pt, i64_w, i32_w]; rfl)
      refine take_ (i := 12) (N := some 20) (v := ?_) (a' := ?_) impl_Base_grows.m11 rfl rfl (take_ofW HT_.out HW_.out (by kernel_rfl)) (fun _ _ _ h => h) (Or.inl ⟨by rfl, ?_⟩) hHeld ?_ ?_; rotate_left; (focus rintro w' ⟨s0, s1, s2, s3⟩; go_simp; with_reducible rfl); rotate_left; (focus simp only [pt, i64_w, i32_w]; rfl)
      refine pure_ (i := 13) (N := some 21) (v := ?_) (a' := ?_) impl_Base_grows.m12 rfl rfl (any_of HT_.out (by kernel_rfl)) (fun _ _ _ h => h) (Or.inl ⟨by rfl, ?_⟩) ?_ ?_; rotate_left; (focus intro w'; go_simp; with_reducible rfl); rotate_left; (focus simp only [pt, i64_w, i32_w]; rfl)
      refine pure_ (i := 14) (N := some 22) (v := ?_) (a' := ?_) impl_Base_grows.m13 rfl rfl (any_of HT_.out (by kernel_rfl)) (fun _ _ _ h => h) (Or.inl ⟨by rfl, ?_⟩) ?_ ?_; rotate_left; (focus intro w'; go_simp; with_reducible rfl); rotate_left; (focus simp only [pt, i64_w, i32_w]; rfl)
      refine pure_ (i := 15) (N := some 23) (v := ?_) (a' := ?_) impl_Base_grows.m14 rfl rfl (any_of HT_.out (by kernel_rfl)) (fun _ _ _ h => h) (Or.inl ⟨by rfl, ?_⟩) ?_ ?_; rotate_left; (focus intro w'; go_simp; with_reducible rfl); rotate_left; (focus simp only [pt, i64_w, i32_w]; rfl)
      refine pure_ (i := 16) (N := some 24) (v := ?_) (a' := ?_) impl_Base_grows.m15 rfl rfl (any_of HT_.out (by kernel_rfl)) (fun _ _ _ h => h) (Or.inl ⟨by rfl, ?_⟩) ?_ ?_; rotate_left; (focus intro w'; go_simp; with_reducible rfl); rotate_left; (focus simp only [pt, i64_w, i32_w]; rfl)
      refine pure_ (i := 17) (N := some 25) (v := ?_) (a' := ?_) impl_Base_grows.m16 rfl rfl (any_of HT_.out (by kernel_rfl)) (fun _ _ _ h => h) (Or.inl ⟨by rfl, ?_⟩) ?_ ?_; rotate_left; (focus intro w'; go_simp; with_reducible rfl); rotate_left; (focus simp only [pt, i64_w, i32_w]; rfl)
      refine pure_ (i := 19) (N := some 27) (v := ?_) (a' := ?_) #[true, true, true, true, true, true, true, true, true, true, true, true, true, true, true, true, true, true, false, true, false, false, false, false, false, false, false, false] rfl rfl (any_of HT_.out (by kernel_rfl)) (fun _ _ _ h => h) (Or.inl ⟨by rfl, ?_⟩) ?_ ?_; rotate_left; (focus intro w'; go_simp; with_reducible rfl); rotate_left; (focus simp only [pt, i64_w, i32_w]; rfl)
      refine pure_ (i := 21) (N := some 29) (v := ?_) (a' := ?_) #[true, true, true, true, true, true, true, true, true, true, true, true, true, true, true, true, true, true, false, true, false, true, false, false, false, false, false, false] rfl rfl (any_of HT_.out (by kernel_rfl)) (fun _ _ _ h => h) (Or.inl ⟨by rfl, ?_⟩) ?_ ?_; rotate_left; (focus intro w'; go_simp; with_reducible rfl); rotate_left; (focus simp only [pt, i64_w, i32_w]; rfl)
      refine take_ (i := 18) (N := some 26) (v := ?_) (a' := ?_) #[true, true, true, true, true, true, true, true, true, true, true, true, true, true, true, true, true, true, true, true, false, true, false, false, false, false, false, false] rfl rfl (take_ofW HT_.out HW_.out (by kernel_rfl)) (fun _ _ _ h => h) (Or.inl ⟨by rfl, ?_⟩) hHeld ?_ ?_; rotate_left; (focus rintro w' ⟨s0, s1, s2, s3⟩; go_simp; with_reducible rfl); rotate_left; (focus simp only [pt, i64_w, i32_w]; rfl)
      refine take_ (i := 20) (N := some 28) (v := ?_) (a' := ?_) impl_Base_grows.m20 rfl rfl (take_ofW HT_.out HW_.out (by kernel_rfl)) (fun _ _ _ h => h) (Or.inl ⟨by rfl, ?_⟩) hHeld ?_ ?_; rotate_left; (focus rintro w' ⟨s0, s1, s2, s3⟩; go_simp; with_reducible rfl); rotate_left; (focus simp only [pt, i64_w, i32_w]; rfl)
      refine take_ (i := 22) (N := some 30) (v := ?_) (a' := ?_) impl_Base_grows.m21 rfl rfl (take_ofW HT_.out HW_.out (by kernel_rfl)) (fun _ _ _ h => h) (Or.inl ⟨by rfl, ?_⟩) hHeld ?_ ?_; rotate_left; (focus rintro w' ⟨s0, s1, s2, s3⟩; go_simp; with_reducible rfl); rotate_left; (focus simp only [pt, i64_w, i32_w]; rfl)
      refine pure_ (i := 23) (N := some 31) (v := ?_) (a' := ?_) impl_Base_grows.m22 rfl rfl (any_of HT_.out (by kernel_rfl)) (fun _ _ _ h => h) (Or.inl ⟨by rfl, ?_⟩) ?_ ?_; rotate_left; (focus intro w'; go_simp; with_reducible rfl); rotate_left; (focus simp only [pt, i64_w, i32_w]; rfl)
      refine pure_ (i := 24) (N := some 32) (v := ?_) (a' := ?_) impl_Base_grows.m23 rfl rfl (any_of HT_.out (by kernel_rfl)) (fun _ _ _ h => h) (Or.inl ⟨by rfl, ?_⟩) ?_ ?_; rotate_left; (focus intro w'; go_simp; with_reducible rfl); rotate_left; (focus simp only [pt, i64_w, i32_w]; rfl)
      refine one_ (i := 25) (N := some 33) impl_Base_grows.m24 rfl rfl (one_of HT_.out (by kernel_rfl)) (by decide) (fun K hK => ?_)
      refine goes_ Try.func192 (by kernel_rfl) rfl #[.slice A1_0 l1_0.length c1_0, .slice A0_0 y807.length c0_0, .func (.func 193) #[] #[]] (by rfl) rfl rfl gA ?_
      with_reducible refine (eqCommits.calls _ _ l1_0 _ _ y807 t811 _ ?side1 ?side2 ?side3 ?side4 A12.out).mono ?_
      (case side1 => exact cB HR1_0)
      (case side2 => exact HC1_0.out)
      (case side3 => exact cB HR810)
      (case side4 => exact HC810.out)
      rintro e w15 ⟨rfl, hb⟩
      refine ⟨_, rfl, ?_⟩
      have n0_ := Aside0.mk (kb BK805 hb)
      have n1_ := Aside0.mk (kb BK806 hb)
      have n2_ := Aside0.mk (below_step (w := w) bW hb)
      clear BK805
      clear BK806
      clear HB
      have BK805 := n0_
      have BK806 := n1_
      have HB := n2_
      clear n0_ n1_ n2_
      (try clear hb)
      (try clear hb2)
      (try clear hk)
      (try clear hi)
      refine hK.out _ _ ⟨(blk_cell BK805.out 0).trans rfl, (blk_cell BK805.out 1).trans rfl, (blk_cell BK806.out 0).trans rfl, (blk_cell BK806.out 1).trans rfl⟩ (fun hHeld => ?_)
      clear hK K
      refine norm_ (a' := ?_) ?_ ?_
      rotate_left
      ·show Act.put _ (some 33) _ = _
       simp only [Act.put, List.setIfInBounds_toArray, List.set_cons_zero, List.set_cons_succ, i64_w, i32_w]
       rfl
      refine pure_ (i := 26) (N := some 34) (v := ?_) (a' := ?_) impl_Base_grows.m25 rfl rfl (any_of HT_.out (by kernel_rfl)) (fun _ _ _ h => h) (Or.inl ⟨by rfl, ?_⟩) ?_ ?_; rotate_left; (focus intro w'; go_simp; with_reducible rfl); rotate_left; (focus simp only [pt, i64_w, i32_w]; rfl)
      refine pure_ (i := 27) (N := some 35) (v := ?_) (a' := ?_) impl_Base_grows.m26 rfl rfl (any_of HT_.out (by kernel_rfl)) (fun _ _ _ h => h) (Or.inl ⟨by rfl, ?_⟩) ?_ ?_; rotate_left; (focus intro w'; go_simp; with_reducible rfl); rotate_left; (focus simp only [pt, i64_w, i32_w]; rfl)
      refine done_ (done_of HT_.out (by kernel_rfl)) ?_
      try go_wp2
      go_meet
      case rel => exact ⟨_, (!t811), vE, H', ⟨by first | omega | exact Nat.le_refl _⟩, ⟨by (with_reducible repeat (first | refine blk_drewN ?_ _ | refine blk_drew ?_ | refine blk_alloc ?_ _)); exact BK805.out⟩, ⟨by (with_reducible repeat (first | refine blk_drewN ?_ _ | refine blk_drew ?_ | refine blk_alloc ?_ _)); exact BK806.out⟩, ⟨bW⟩⟩
     ·rw [if_neg c11] at H
      exact absurd H (by simp)
    ·rw [if_neg c10] at H
     exact absurd H (by simp)
 case rest =>
  clear HC3
  try clear c1
  try clear q1
  try clear p2
  try clear c6
  try clear c6b0
  try clear c6b1
  try clear c8
  try clear c8b0
  try clear c8b1
  try clear c9
  try clear c10
  try clear c10b0
  try clear c10b1
  try clear c11
  try clear c11b0
  try clear c11b1
  try clear q14
  try clear q14
  obtain ⟨kq, x35_2, rfl, HA, HJ2, BK805, BK806, HB⟩ := hcut
  cases kq with
  | zero => exact absurd HA.out (by simp [impl_Base_grows.j0])
  | succ kj2 =>
   have H := HA.out
   clear HA
   simp only [impl_Base_grows.j0] at H
   by_cases c16 : x35_2 = true
   ·subst c16
    have H1 : (some false) = some r := by rw [if_pos rfl] at H; exact H
    clear H
    have H := H1
    clear H1
    obtain rfl := Option.some.inj H
    go_wp2
    go_ret
    exact ⟨rE, bW⟩
   ·replace c16 := Bool.eq_false_iff.mpr c16
    subst c16
    have H1 : (impl_Base_grows.l0 kj2 l1_1 (l1_1.length : Int) 0 l0_0 l0_1) = some r := by rw [if_neg (show ¬ (false = true) by decide)] at H; exact H
    clear H
    have H := H1
    clear H1
    have H' := Aside0.mk H
    clear H
    have hnb17 := NB806_805.out
    have hnc17 := NB805_806.out
    have hcz18_0 : wc.cell? ⟨gb806, 0, none⟩ = some (.slice A1_0 l1_0.length c1_0) := (blk_cell BK806.out 0).trans rfl
    have hcz18_1 : wc.cell? ⟨gb806, 1, none⟩ = some (.slice A1_1 l1_1.length c1_1) := (blk_cell BK806.out 1).trans rfl
    have hfz18_0 := blk_frozen BK806.out 0
    have hfz18_1 := blk_frozen BK806.out 1
    go_wp2
    go_loopg [39] kj2 (fun kq v39 w' => ∃ (x39_2 : Int), v39 = .int .i64 x39_2 ∧ Aside0 (impl_Base_grows.l0 kq l1_1 (l1_1.length : Int) x39_2 l0_0 l0_1 = some r) ∧ Aside0 (kq ≤ kj2) ∧ Aside0 (w'.heap[gb805]? = some (.cells #[(.slice A0_0 l0_0.length c0_0), (.slice A0_1 l0_1.length c0_1)] 66 (0, 0))) ∧ Aside0 (w'.heap[gb806]? = some (.cells #[(.slice A1_0 l1_0.length c1_0), (.slice A1_1 l1_1.length c1_1)] 66 (0, 0))) ∧ Aside0 (Below w.heap.size w w'))
    case atStart => exact ⟨(0), vE, H', ⟨Nat.le_refl _⟩, ⟨by (with_reducible repeat (first | refine blk_drewN ?_ _ | refine blk_drew ?_ | refine blk_alloc ?_ _)); exact BK805.out⟩, ⟨by (with_reducible repeat (first | refine blk_drewN ?_ _ | refine blk_drew ?_ | refine blk_alloc ?_ _)); exact BK806.out⟩, ⟨bW⟩⟩
    case round =>
     clear H'
     try clear c1
     try clear q1
     try clear p2
     try clear c6
     try clear c6b0
     try clear c6b1
     try clear c8
     try clear c8b0
     try clear c8b1
     try clear c9
     try clear c10
     try clear c10b0
     try clear c10b1
     try clear c11
     try clear c11b0
     try clear c11b1
     try clear q14
     try clear c16
     try clear c17
     try clear hcz18_0
     try clear hcz18_1
     try clear hfz18_0
     try clear hfz18_1
     try clear p2
     try clear q1
     try clear q14
     obtain ⟨x39_2, rfl, HA, HK2, BK805, BK806, HB⟩ := hrel
     cases gk with
     | zero => exact absurd HA.out (by simp [impl_Base_grows.l0])
     | succ k2 =>
      have H := HA.out
      clear HA
      simp only [impl_Base_grows.l0] at H
      by_cases c19 : x39_2 < (l1_1.length : Int)
      ·rw [if_pos c19] at H
       have c19b0 : decide (x39_2 < (l1_1.length : Int)) = true := decide_eq_true c19
       clear c19
       by_cases c20 : 0 ≤ x39_2
       ·rw [if_pos c20] at H
        have c20b0 : decide (0 ≤ x39_2) = true := decide_eq_true c20
        clear c20
        by_cases c21 : x39_2 < (l1_1.length : Int)
        ·rw [if_pos c21] at H
         have c21b0 : decide (x39_2 < (l1_1.length : Int)) = true := decide_eq_true c21
         clear c21
         by_cases c22 : x39_2 < (l0_1.length : Int)
         ·rw [if_pos c22] at H
          have c22b0 : decide (x39_2 < (l0_1.length : Int)) = true := decide_eq_true c22
          clear c22
          by_cases c23 : ((rd_T178 l0_1 x39_2).f0).toList = ((rd_T178 l1_1 x39_2).f0).toList
          ·rw [if_pos c23] at H
           have c23b0 : (((rd_T178 l0_1 x39_2).f0).toList == ((rd_T178 l1_1 x39_2).f0).toList) = true := beq_iff_eq.mpr c23
           have c23b1 : (((rd_T178 l0_1 x39_2).f0).toList != ((rd_T178 l1_1 x39_2).f0).toList) = false := bne_eq_false_iff_eq.mpr c23
           clear c23
           by_cases c24 : ((rd_T178 l0_1 x39_2).f2) < ((rd_T178 l1_1 x39_2).f2)
           ·rw [if_pos c24] at H
            have c24b0 : decide (((rd_T178 l0_1 x39_2).f2) < ((rd_T178 l1_1 x39_2).f2)) = true := decide_eq_true c24
            clear c24
            obtain rfl := Option.some.inj H
            have p812 : 0 ≤ (x39_2 : Int) := odt
            have q812 : x39_2 < (l1_1.length : Int) := odt
            obtain ⟨ad812, e812, hx812_0, hx812_1, hx812_2, hx812_3⟩ := at_T178 HR1_1.out x39_2 p812 q812
            cases e812
            replace hx812_0 := (HB.out.cell (World.block_lt_of_cell? w _ hx812_0)).trans hx812_0
            replace hx812_1 := (HB.out.cell (World.block_lt_of_cell? w _ hx812_1)).trans hx812_1
            replace hx812_2 := (HB.out.cell (World.block_lt_of_cell? w _ hx812_2)).trans hx812_2
            replace hx812_3 := (HB.out.cell (World.block_lt_of_cell? w _ hx812_3)).trans hx812_3
            replace p812 := eq_true p812
            replace q812 := eq_true q812
            go_wp2_with (first | ((with_reducible refine gate_dst (N := 6) rfl ?_); (try (refine gate_guard (by rfl) ?_; dsimp only)); refine bE (N := 6) (cs := #[.string (⟨#[]⟩ : ByteArray), .int .i64 0, .int .i64 0, .bool false]) (t := 178) ?_; intro gb813 hg w25 hbox hb; have n0_ := Aside0.mk (kb BK805 hb); have n1_ := Aside0.mk (kb BK806 hb); have n2_ := Aside0.mk (below_step (w := w) bW hb); have n3_ := Aside0.mk (hbox); have n4_ := Aside0.mk (gS (w := w) hg); have n5_ := n4_; have n6_ := Aside0.mk (nL BK805 hg); have n7_ := Aside0.mk (nG BK805 hg); have n8_ := Aside0.mk (nL BK806 hg); have n9_ := Aside0.mk (nG BK806 hg); clear BK805; clear BK806; clear HB; have BK805 := n0_; have BK806 := n1_; have HB := n2_; have BK813 := n3_; have GW813 := n4_; have GE813 := n5_; have NB805_813 := n6_; have NB813_805 := n7_; have NB806_813 := n8_; have NB813_806 := n9_; clear n0_ n1_ n2_ n3_ n4_ n5_ n6_ n7_ n8_ n9_; clear hb hbox hg; have hnb26 := NB813_805.out; have hnc26 := NB805_813.out; have hnb27 := NB813_806.out; have hnc27 := NB806_813.out; obtain ⟨hcz28_0, hcz28_1, hcz28_2, hcz28_3⟩ := cz4 BK813; obtain ⟨hfz28_0, hfz28_1, hfz28_2, hfz28_3⟩ := fz4 BK813; have hnb29 := NB805_806.out; have hnc29 := NB806_805.out; obtain ⟨hcz30_0, hcz30_1⟩ := cz2 BK805; obtain ⟨hfz30_0, hfz30_1⟩ := fz2 BK805; have p814 : 0 ≤ (x39_2 : Int) := odt; have q814 : x39_2 < (l0_1.length : Int) := odt; obtain ⟨ad814, e814, hx814_0, hx814_1, hx814_2, hx814_3⟩ := at_T178 HR0_1.out x39_2 p814 q814; cases e814; have hn814_0 : ad814.block ≠ gb813 := Nat.ne_of_lt (Nat.lt_of_lt_of_le (by have := World.block_lt_of_cell? _ _ hx814_0; first | rwa [add_block] at this | exact this) GW813.out); have hn814_1 : ad814.block ≠ gb813 := Nat.ne_of_lt (Nat.lt_of_lt_of_le (by have := World.block_lt_of_cell? _ _ hx814_0; first | rwa [add_block] at this | exact this) GW813.out); have hn814_2 : ad814.block ≠ gb813 := Nat.ne_of_lt (Nat.lt_of_lt_of_le (by have := World.block_lt_of_cell? _ _ hx814_0; first | rwa [add_block] at this | exact this) GW813.out); have hn814_3 : ad814.block ≠ gb813 := Nat.ne_of_lt (Nat.lt_of_lt_of_le (by have := World.block_lt_of_cell? _ _ hx814_0; first | rwa [add_block] at this | exact this) GW813.out); replace hx814_0 := (HB.out.cell (World.block_lt_of_cell? w _ hx814_0)).trans hx814_0; replace hx814_1 := (HB.out.cell (World.block_lt_of_cell? w _ hx814_1)).trans hx814_1; replace hx814_2 := (HB.out.cell (World.block_lt_of_cell? w _ hx814_2)).trans hx814_2; replace hx814_3 := (HB.out.cell (World.block_lt_of_cell? w _ hx814_3)).trans hx814_3; replace hx814_0 := (cell_far (p := ⟨gb813, 0, none⟩) (by first | (rw [add_block]; exact hn814_0) | (show (Addr.add _ _).block ≠ _; rw [add_block]; exact hn814_0) | exact hn814_0) (.string ((rd_T178 l1_1 x39_2).f0))).trans hx814_0; replace hx814_1 := (cell_far (p := ⟨gb813, 0, none⟩) (by first | (rw [add_block]; exact hn814_0) | (show (Addr.add _ _).block ≠ _; rw [add_block]; exact hn814_0) | exact hn814_0) (.string ((rd_T178 l1_1 x39_2).f0))).trans hx814_1; replace hx814_2 := (cell_far (p := ⟨gb813, 0, none⟩) (by first | (rw [add_block]; exact hn814_0) | (show (Addr.add _ _).block ≠ _; rw [add_block]; exact hn814_0) | exact hn814_0) (.string ((rd_T178 l1_1 x39_2).f0))).trans hx814_2; replace hx814_3 := (cell_far (p := ⟨gb813, 0, none⟩) (by first | (rw [add_block]; exact hn814_0) | (show (Addr.add _ _).block ≠ _; rw [add_block]; exact hn814_0) | exact hn814_0) (.string ((rd_T178 l1_1 x39_2).f0))).trans hx814_3; replace hx814_0 := (cell_far (p := ⟨gb813, 1, none⟩) (by first | (rw [add_block]; exact hn814_1) | (show (Addr.add _ _).block ≠ _; rw [add_block]; exact hn814_1) | exact hn814_1) (.int .i64 ((rd_T178 l1_1 x39_2).f1))).trans hx814_0; replace hx814_1 := (cell_far (p := ⟨gb813, 1, none⟩) (by first | (rw [add_block]; exact hn814_1) | (show (Addr.add _ _).block ≠ _; rw [add_block]; exact hn814_1) | exact hn814_1) (.int .i64 ((rd_T178 l1_1 x39_2).f1))).trans hx814_1; replace hx814_2 := (cell_far (p := ⟨gb813, 1, none⟩) (by first | (rw [add_block]; exact hn814_1) | (show (Addr.add _ _).block ≠ _; rw [add_block]; exact hn814_1) | exact hn814_1) (.int .i64 ((rd_T178 l1_1 x39_2).f1))).trans hx814_2; replace hx814_3 := (cell_far (p := ⟨gb813, 1, none⟩) (by first | (rw [add_block]; exact hn814_1) | (show (Addr.add _ _).block ≠ _; rw [add_block]; exact hn814_1) | exact hn814_1) (.int .i64 ((rd_T178 l1_1 x39_2).f1))).trans hx814_3; replace hx814_0 := (cell_far (p := ⟨gb813, 2, none⟩) (by first | (rw [add_block]; exact hn814_2) | (show (Addr.add _ _).block ≠ _; rw [add_block]; exact hn814_2) | exact hn814_2) (.int .i64 ((rd_T178 l1_1 x39_2).f2))).trans hx814_0; replace hx814_1 := (cell_far (p := ⟨gb813, 2, none⟩) (by first | (rw [add_block]; exact hn814_2) | (show (Addr.add _ _).block ≠ _; rw [add_block]; exact hn814_2) | exact hn814_2) (.int .i64 ((rd_T178 l1_1 x39_2).f2))).trans hx814_1; replace hx814_2 := (cell_far (p := ⟨gb813, 2, none⟩) (by first | (rw [add_block]; exact hn814_2) | (show (Addr.add _ _).block ≠ _; rw [add_block]; exact hn814_2) | exact hn814_2) (.int .i64 ((rd_T178 l1_1 x39_2).f2))).trans hx814_2; replace hx814_3 := (cell_far (p := ⟨gb813, 2, none⟩) (by first | (rw [add_block]; exact hn814_2) | (show (Addr.add _ _).block ≠ _; rw [add_block]; exact hn814_2) | exact hn814_2) (.int .i64 ((rd_T178 l1_1 x39_2).f2))).trans hx814_3; replace hx814_0 := (cell_far (p := ⟨gb813, 3, none⟩) (by first | (rw [add_block]; exact hn814_3) | (show (Addr.add _ _).block ≠ _; rw [add_block]; exact hn814_3) | exact hn814_3) (.bool ((rd_T178 l1_1 x39_2).f3))).trans hx814_0; replace hx814_1 := (cell_far (p := ⟨gb813, 3, none⟩) (by first | (rw [add_block]; exact hn814_3) | (show (Addr.add _ _).block ≠ _; rw [add_block]; exact hn814_3) | exact hn814_3) (.bool ((rd_T178 l1_1 x39_2).f3))).trans hx814_1; replace hx814_2 := (cell_far (p := ⟨gb813, 3, none⟩) (by first | (rw [add_block]; exact hn814_3) | (show (Addr.add _ _).block ≠ _; rw [add_block]; exact hn814_3) | exact hn814_3) (.bool ((rd_T178 l1_1 x39_2).f3))).trans hx814_2; replace hx814_3 := (cell_far (p := ⟨gb813, 3, none⟩) (by first | (rw [add_block]; exact hn814_3) | (show (Addr.add _ _).block ≠ _; rw [add_block]; exact hn814_3) | exact hn814_3) (.bool ((rd_T178 l1_1 x39_2).f3))).trans hx814_3; clear hn814_0; clear hn814_1; clear hn814_2; clear hn814_3; replace p814 := eq_true p814; replace q814 := eq_true q814) | ((with_reducible refine gate_dst (N := 7) rfl ?_); (try (refine gate_guard (by rfl) ?_; dsimp only)); refine bE (N := 7) (cs := #[.string (⟨#[]⟩ : ByteArray), .int .i64 0, .int .i64 0, .bool false]) (t := 178) ?_; intro gb815 hg w31 hbox hb; have n0_ := Aside0.mk (kbF BK805 hb); have n1_ := Aside0.mk (kbF BK806 hb); have n2_ := Aside0.mk (blk_below (g := gb813) (o := .cells #[.string ((rd_T178 l1_1 x39_2).f0), .int .i64 ((rd_T178 l1_1 x39_2).f1), .int .i64 ((rd_T178 l1_1 x39_2).f2), .bool ((rd_T178 l1_1 x39_2).f3)] 178 (0, 0)) (by (with_reducible repeat (first | refine blk_drewN ?_ _ | refine blk_drew ?_ | refine blk_alloc ?_ _)); refine blk_put (cs := #[.string ((rd_T178 l1_1 x39_2).f0), .int .i64 ((rd_T178 l1_1 x39_2).f1), .int .i64 ((rd_T178 l1_1 x39_2).f2), .bool false]) ?_ 3 _ rfl; (with_reducible repeat (first | refine blk_drewN ?_ _ | refine blk_drew ?_ | refine blk_alloc ?_ _)); refine blk_put (cs := #[.string ((rd_T178 l1_1 x39_2).f0), .int .i64 ((rd_T178 l1_1 x39_2).f1), .int .i64 0, .bool false]) ?_ 2 _ rfl; (with_reducible repeat (first | refine blk_drewN ?_ _ | refine blk_drew ?_ | refine blk_alloc ?_ _)); refine blk_put (cs := #[.string ((rd_T178 l1_1 x39_2).f0), .int .i64 0, .int .i64 0, .bool false]) ?_ 1 _ rfl; (with_reducible repeat (first | refine blk_drewN ?_ _ | refine blk_drew ?_ | refine blk_alloc ?_ _)); refine blk_put (cs := #[.string (⟨#[]⟩ : ByteArray), .int .i64 0, .int .i64 0, .bool false]) ?_ 0 _ rfl; (with_reducible repeat (first | refine blk_drewN ?_ _ | refine blk_drew ?_ | refine blk_alloc ?_ _)); exact BK813.out) hb); have n3_ := Aside0.mk (below_step (w := w) bW hb); have n4_ := Aside0.mk (hbox); have n5_ := Aside0.mk (gS (w := w) hg); have n6_ := n5_; have n7_ := Aside0.mk (nLF BK805 hg); have n8_ := Aside0.mk (nGF BK805 hg); have n9_ := Aside0.mk (nLF BK806 hg); have n10_ := Aside0.mk (nGF BK806 hg); have n11_ := Aside0.mk ((by rw [hg]; exact Nat.ne_of_lt (blk_lt (g := gb813) (o := .cells #[.string ((rd_T178 l1_1 x39_2).f0), .int .i64 ((rd_T178 l1_1 x39_2).f1), .int .i64 ((rd_T178 l1_1 x39_2).f2), .bool ((rd_T178 l1_1 x39_2).f3)] 178 (0, 0)) (by (with_reducible repeat (first | refine blk_drewN ?_ _ | refine blk_drew ?_ | refine blk_alloc ?_ _)); refine blk_put (cs := #[.string ((rd_T178 l1_1 x39_2).f0), .int .i64 ((rd_T178 l1_1 x39_2).f1), .int .i64 ((rd_T178 l1_1 x39_2).f2), .bool false]) ?_ 3 _ rfl; (with_reducible repeat (first | refine blk_drewN ?_ _ | refine blk_drew ?_ | refine blk_alloc ?_ _)); refine blk_put (cs := #[.string ((rd_T178 l1_1 x39_2).f0), .int .i64 ((rd_T178 l1_1 x39_2).f1), .int .i64 0, .bool false]) ?_ 2 _ rfl; (with_reducible repeat (first | refine blk_drewN ?_ _ | refine blk_drew ?_ | refine blk_alloc ?_ _)); refine blk_put (cs := #[.string ((rd_T178 l1_1 x39_2).f0), .int .i64 0, .int .i64 0, .bool false]) ?_ 1 _ rfl; (with_reducible repeat (first | refine blk_drewN ?_ _ | refine blk_drew ?_ | refine blk_alloc ?_ _)); refine blk_put (cs := #[.string (⟨#[]⟩ : ByteArray), .int .i64 0, .int .i64 0, .bool false]) ?_ 0 _ rfl; (with_reducible repeat (first | refine blk_drewN ?_ _ | refine blk_drew ?_ | refine blk_alloc ?_ _)); exact BK813.out)) : gb813 ≠ gb815)); have n12_ := Aside0.mk ((by rw [hg]; exact Nat.ne_of_gt (blk_lt (g := gb813) (o := .cells #[.string ((rd_T178 l1_1 x39_2).f0), .int .i64 ((rd_T178 l1_1 x39_2).f1), .int .i64 ((rd_T178 l1_1 x39_2).f2), .bool ((rd_T178 l1_1 x39_2).f3)] 178 (0, 0)) (by (with_reducible repeat (first | refine blk_drewN ?_ _ | refine blk_drew ?_ | refine blk_alloc ?_ _)); refine blk_put (cs := #[.string ((rd_T178 l1_1 x39_2).f0), .int .i64 ((rd_T178 l1_1 x39_2).f1), .int .i64 ((rd_T178 l1_1 x39_2).f2), .bool false]) ?_ 3 _ rfl; (with_reducible repeat (first | refine blk_drewN ?_ _ | refine blk_drew ?_ | refine blk_alloc ?_ _)); refine blk_put (cs := #[.string ((rd_T178 l1_1 x39_2).f0), .int .i64 ((rd_T178 l1_1 x39_2).f1), .int .i64 0, .bool false]) ?_ 2 _ rfl; (with_reducible repeat (first | refine blk_drewN ?_ _ | refine blk_drew ?_ | refine blk_alloc ?_ _)); refine blk_put (cs := #[.string ((rd_T178 l1_1 x39_2).f0), .int .i64 0, .int .i64 0, .bool false]) ?_ 1 _ rfl; (with_reducible repeat (first | refine blk_drewN ?_ _ | refine blk_drew ?_ | refine blk_alloc ?_ _)); refine blk_put (cs := #[.string (⟨#[]⟩ : ByteArray), .int .i64 0, .int .i64 0, .bool false]) ?_ 0 _ rfl; (with_reducible repeat (first | refine blk_drewN ?_ _ | refine blk_drew ?_ | refine blk_alloc ?_ _)); exact BK813.out)) : gb815 ≠ gb813)); clear BK805; clear BK806; clear BK813; clear HB; have BK805 := n0_; have BK806 := n1_; have BK813 := n2_; have HB := n3_; have BK815 := n4_; have GW815 := n5_; have GE815 := n6_; have NB805_815 := n7_; have NB815_805 := n8_; have NB806_815 := n9_; have NB815_806 := n10_; have NB813_815 := n11_; have NB815_813 := n12_; clear n0_ n1_ n2_ n3_ n4_ n5_ n6_ n7_ n8_ n9_ n10_ n11_ n12_; clear hb hbox hg; have hnb32 := NB815_805.out; have hnc32 := NB805_815.out; have hnb33 := NB815_806.out; have hnc33 := NB806_815.out; have hnb34 := NB815_813.out; have hnc34 := NB813_815.out; obtain ⟨hcz35_0, hcz35_1, hcz35_2, hcz35_3⟩ := cz4 BK815; obtain ⟨hfz35_0, hfz35_1, hfz35_2, hfz35_3⟩ := fz4 BK815; obtain ⟨hcz36_0, hcz36_1, hcz36_2, hcz36_3⟩ := cz4 BK813; obtain ⟨hfz36_0, hfz36_1, hfz36_2, hfz36_3⟩ := fz4 BK813))
            go_ret
            exact ⟨rE, bW⟩
           ·rw [if_neg c24] at H
            have c24b0 : decide (((rd_T178 l0_1 x39_2).f2) < ((rd_T178 l1_1 x39_2).f2)) = false := decide_eq_false c24
            clear c24
            by_cases c37 : ((rd_T178 l0_1 x39_2).f2) = ((rd_T178 l1_1 x39_2).f2)
            ·rw [if_pos c37] at H
             have c37b0 : (((rd_T178 l0_1 x39_2).f2) == ((rd_T178 l1_1 x39_2).f2)) = true := beq_iff_eq.mpr c37
             have c37b1 : (((rd_T178 l0_1 x39_2).f2) != ((rd_T178 l1_1 x39_2).f2)) = false := bne_eq_false_iff_eq.mpr c37
             clear c37
             rw [show (!((((rd_T178 l0_1 x39_2).f0).toList) == (((rd_T178 l1_1 x39_2).f0).toList)) || (!(((rd_T178 l0_1 x39_2).f1) == ((rd_T178 l1_1 x39_2).f1)) || (!(((rd_T178 l0_1 x39_2).f2) == ((rd_T178 l1_1 x39_2).f2)) || (!(((rd_T178 l0_1 x39_2).f3) == ((rd_T178 l1_1 x39_2).f3)))))) = ((!((((rd_T178 l0_1 x39_2).f1) == ((rd_T178 l1_1 x39_2).f1)))) || ((!((((rd_T178 l0_1 x39_2).f3) == ((rd_T178 l1_1 x39_2).f3)))))) from by simp only [c23b0, c37b0, Bool.not_true, Bool.false_or, Bool.or_false]] at H
             by_cases c38 : ((!((((rd_T178 l0_1 x39_2).f1) == ((rd_T178 l1_1 x39_2).f1)))) || ((!((((rd_T178 l0_1 x39_2).f3) == ((rd_T178 l1_1 x39_2).f3)))))) = true
             ·rw [if_pos c38] at H
              have c38b0 : ((!((((rd_T178 l0_1 x39_2).f1) == ((rd_T178 l1_1 x39_2).f1)))) || ((!((((rd_T178 l0_1 x39_2).f3) == ((rd_T178 l1_1 x39_2).f3)))))) = true := c38
              clear c38
              obtain rfl := Option.some.inj H
              have p812 : 0 ≤ (x39_2 : Int) := odt
              have q812 : x39_2 < (l1_1.length : Int) := odt
              obtain ⟨ad812, e812, hx812_0, hx812_1, hx812_2, hx812_3⟩ := at_T178 HR1_1.out x39_2 p812 q812
              cases e812
              replace hx812_0 := (HB.out.cell (World.block_lt_of_cell? w _ hx812_0)).trans hx812_0
              replace hx812_1 := (HB.out.cell (World.block_lt_of_cell? w _ hx812_1)).trans hx812_1
              replace hx812_2 := (HB.out.cell (World.block_lt_of_cell? w _ hx812_2)).trans hx812_2
              replace hx812_3 := (HB.out.cell (World.block_lt_of_cell? w _ hx812_3)).trans hx812_3
              replace p812 := eq_true p812
              replace q812 := eq_true q812
              go_wp2_with (first | ((with_reducible refine gate_dst (N := 6) rfl ?_); (try (refine gate_guard (by rfl) ?_; dsimp only)); refine bE (N := 6) (cs := #[.string (⟨#[]⟩ : ByteArray), .int .i64 0, .int .i64 0, .bool false]) (t := 178) ?_; intro gb813 hg w39 hbox hb; have n0_ := Aside0.mk (kb BK805 hb); have n1_ := Aside0.mk (kb BK806 hb); have n2_ := Aside0.mk (below_step (w := w) bW hb); have n3_ := Aside0.mk (hbox); have n4_ := Aside0.mk (gS (w := w) hg); have n5_ := n4_; have n6_ := Aside0.mk (nL BK805 hg); have n7_ := Aside0.mk (nG BK805 hg); have n8_ := Aside0.mk (nL BK806 hg); have n9_ := Aside0.mk (nG BK806 hg); clear BK805; clear BK806; clear HB; have BK805 := n0_; have BK806 := n1_; have HB := n2_; have BK813 := n3_; have GW813 := n4_; have GE813 := n5_; have NB805_813 := n6_; have NB813_805 := n7_; have NB806_813 := n8_; have NB813_806 := n9_; clear n0_ n1_ n2_ n3_ n4_ n5_ n6_ n7_ n8_ n9_; clear hb hbox hg; have hnb40 := NB813_805.out; have hnc40 := NB805_813.out; have hnb41 := NB813_806.out; have hnc41 := NB806_813.out; obtain ⟨hcz42_0, hcz42_1, hcz42_2, hcz42_3⟩ := cz4 BK813; obtain ⟨hfz42_0, hfz42_1, hfz42_2, hfz42_3⟩ := fz4 BK813; have hnb43 := NB805_806.out; have hnc43 := NB806_805.out; obtain ⟨hcz44_0, hcz44_1⟩ := cz2 BK805; obtain ⟨hfz44_0, hfz44_1⟩ := fz2 BK805; have p814 : 0 ≤ (x39_2 : Int) := odt; have q814 : x39_2 < (l0_1.length : Int) := odt; obtain ⟨ad814, e814, hx814_0, hx814_1, hx814_2, hx814_3⟩ := at_T178 HR0_1.out x39_2 p814 q814; cases e814; have hn814_0 : ad814.block ≠ gb813 := Nat.ne_of_lt (Nat.lt_of_lt_of_le (by have := World.block_lt_of_cell? _ _ hx814_0; first | rwa [add_block] at this | exact this) GW813.out); have hn814_1 : ad814.block ≠ gb813 := Nat.ne_of_lt (Nat.lt_of_lt_of_le (by have := World.block_lt_of_cell? _ _ hx814_0; first | rwa [add_block] at this | exact this) GW813.out); have hn814_2 : ad814.block ≠ gb813 := Nat.ne_of_lt (Nat.lt_of_lt_of_le (by have := World.block_lt_of_cell? _ _ hx814_0; first | rwa [add_block] at this | exact this) GW813.out); have hn814_3 : ad814.block ≠ gb813 := Nat.ne_of_lt (Nat.lt_of_lt_of_le (by have := World.block_lt_of_cell? _ _ hx814_0; first | rwa [add_block] at this | exact this) GW813.out); replace hx814_0 := (HB.out.cell (World.block_lt_of_cell? w _ hx814_0)).trans hx814_0; replace hx814_1 := (HB.out.cell (World.block_lt_of_cell? w _ hx814_1)).trans hx814_1; replace hx814_2 := (HB.out.cell (World.block_lt_of_cell? w _ hx814_2)).trans hx814_2; replace hx814_3 := (HB.out.cell (World.block_lt_of_cell? w _ hx814_3)).trans hx814_3; replace hx814_0 := (cell_far (p := ⟨gb813, 0, none⟩) (by first | (rw [add_block]; exact hn814_0) | (show (Addr.add _ _).block ≠ _; rw [add_block]; exact hn814_0) | exact hn814_0) (.string ((rd_T178 l1_1 x39_2).f0))).trans hx814_0; replace hx814_1 := (cell_far (p := ⟨gb813, 0, none⟩) (by first | (rw [add_block]; exact hn814_0) | (show (Addr.add _ _).block ≠ _; rw [add_block]; exact hn814_0) | exact hn814_0) (.string ((rd_T178 l1_1 x39_2).f0))).trans hx814_1; replace hx814_2 := (cell_far (p := ⟨gb813, 0, none⟩) (by first | (rw [add_block]; exact hn814_0) | (show (Addr.add _ _).block ≠ _; rw [add_block]; exact hn814_0) | exact hn814_0) (.string ((rd_T178 l1_1 x39_2).f0))).trans hx814_2; replace hx814_3 := (cell_far (p := ⟨gb813, 0, none⟩) (by first | (rw [add_block]; exact hn814_0) | (show (Addr.add _ _).block ≠ _; rw [add_block]; exact hn814_0) | exact hn814_0) (.string ((rd_T178 l1_1 x39_2).f0))).trans hx814_3; replace hx814_0 := (cell_far (p := ⟨gb813, 1, none⟩) (by first | (rw [add_block]; exact hn814_1) | (show (Addr.add _ _).block ≠ _; rw [add_block]; exact hn814_1) | exact hn814_1) (.int .i64 ((rd_T178 l1_1 x39_2).f1))).trans hx814_0; replace hx814_1 := (cell_far (p := ⟨gb813, 1, none⟩) (by first | (rw [add_block]; exact hn814_1) | (show (Addr.add _ _).block ≠ _; rw [add_block]; exact hn814_1) | exact hn814_1) (.int .i64 ((rd_T178 l1_1 x39_2).f1))).trans hx814_1; replace hx814_2 := (cell_far (p := ⟨gb813, 1, none⟩) (by first | (rw [add_block]; exact hn814_1) | (show (Addr.add _ _).block ≠ _; rw [add_block]; exact hn814_1) | exact hn814_1) (.int .i64 ((rd_T178 l1_1 x39_2).f1))).trans hx814_2; replace hx814_3 := (cell_far (p := ⟨gb813, 1, none⟩) (by first | (rw [add_block]; exact hn814_1) | (show (Addr.add _ _).block ≠ _; rw [add_block]; exact hn814_1) | exact hn814_1) (.int .i64 ((rd_T178 l1_1 x39_2).f1))).trans hx814_3; replace hx814_0 := (cell_far (p := ⟨gb813, 2, none⟩) (by first | (rw [add_block]; exact hn814_2) | (show (Addr.add _ _).block ≠ _; rw [add_block]; exact hn814_2) | exact hn814_2) (.int .i64 ((rd_T178 l1_1 x39_2).f2))).trans hx814_0; replace hx814_1 := (cell_far (p := ⟨gb813, 2, none⟩) (by first | (rw [add_block]; exact hn814_2) | (show (Addr.add _ _).block ≠ _; rw [add_block]; exact hn814_2) | exact hn814_2) (.int .i64 ((rd_T178 l1_1 x39_2).f2))).trans hx814_1; replace hx814_2 := (cell_far (p := ⟨gb813, 2, none⟩) (by first | (rw [add_block]; exact hn814_2) | (show (Addr.add _ _).block ≠ _; rw [add_block]; exact hn814_2) | exact hn814_2) (.int .i64 ((rd_T178 l1_1 x39_2).f2))).trans hx814_2; replace hx814_3 := (cell_far (p := ⟨gb813, 2, none⟩) (by first | (rw [add_block]; exact hn814_2) | (show (Addr.add _ _).block ≠ _; rw [add_block]; exact hn814_2) | exact hn814_2) (.int .i64 ((rd_T178 l1_1 x39_2).f2))).trans hx814_3; replace hx814_0 := (cell_far (p := ⟨gb813, 3, none⟩) (by first | (rw [add_block]; exact hn814_3) | (show (Addr.add _ _).block ≠ _; rw [add_block]; exact hn814_3) | exact hn814_3) (.bool ((rd_T178 l1_1 x39_2).f3))).trans hx814_0; replace hx814_1 := (cell_far (p := ⟨gb813, 3, none⟩) (by first | (rw [add_block]; exact hn814_3) | (show (Addr.add _ _).block ≠ _; rw [add_block]; exact hn814_3) | exact hn814_3) (.bool ((rd_T178 l1_1 x39_2).f3))).trans hx814_1; replace hx814_2 := (cell_far (p := ⟨gb813, 3, none⟩) (by first | (rw [add_block]; exact hn814_3) | (show (Addr.add _ _).block ≠ _; rw [add_block]; exact hn814_3) | exact hn814_3) (.bool ((rd_T178 l1_1 x39_2).f3))).trans hx814_2; replace hx814_3 := (cell_far (p := ⟨gb813, 3, none⟩) (by first | (rw [add_block]; exact hn814_3) | (show (Addr.add _ _).block ≠ _; rw [add_block]; exact hn814_3) | exact hn814_3) (.bool ((rd_T178 l1_1 x39_2).f3))).trans hx814_3; clear hn814_0; clear hn814_1; clear hn814_2; clear hn814_3; replace p814 := eq_true p814; replace q814 := eq_true q814) | ((with_reducible refine gate_dst (N := 7) rfl ?_); (try (refine gate_guard (by rfl) ?_; dsimp only)); refine bE (N := 7) (cs := #[.string (⟨#[]⟩ : ByteArray), .int .i64 0, .int .i64 0, .bool false]) (t := 178) ?_; intro gb815 hg w45 hbox hb; have n0_ := Aside0.mk (kbF BK805 hb); have n1_ := Aside0.mk (kbF BK806 hb); have n2_ := Aside0.mk (blk_below (g := gb813) (o := .cells #[.string ((rd_T178 l1_1 x39_2).f0), .int .i64 ((rd_T178 l1_1 x39_2).f1), .int .i64 ((rd_T178 l1_1 x39_2).f2), .bool ((rd_T178 l1_1 x39_2).f3)] 178 (0, 0)) (by (with_reducible repeat (first | refine blk_drewN ?_ _ | refine blk_drew ?_ | refine blk_alloc ?_ _)); refine blk_put (cs := #[.string ((rd_T178 l1_1 x39_2).f0), .int .i64 ((rd_T178 l1_1 x39_2).f1), .int .i64 ((rd_T178 l1_1 x39_2).f2), .bool false]) ?_ 3 _ rfl; (with_reducible repeat (first | refine blk_drewN ?_ _ | refine blk_drew ?_ | refine blk_alloc ?_ _)); refine blk_put (cs := #[.string ((rd_T178 l1_1 x39_2).f0), .int .i64 ((rd_T178 l1_1 x39_2).f1), .int .i64 0, .bool false]) ?_ 2 _ rfl; (with_reducible repeat (first | refine blk_drewN ?_ _ | refine blk_drew ?_ | refine blk_alloc ?_ _)); refine blk_put (cs := #[.string ((rd_T178 l1_1 x39_2).f0), .int .i64 0, .int .i64 0, .bool false]) ?_ 1 _ rfl; (with_reducible repeat (first | refine blk_drewN ?_ _ | refine blk_drew ?_ | refine blk_alloc ?_ _)); refine blk_put (cs := #[.string (⟨#[]⟩ : ByteArray), .int .i64 0, .int .i64 0, .bool false]) ?_ 0 _ rfl; (with_reducible repeat (first | refine blk_drewN ?_ _ | refine blk_drew ?_ | refine blk_alloc ?_ _)); exact BK813.out) hb); have n3_ := Aside0.mk (below_step (w := w) bW hb); have n4_ := Aside0.mk (hbox); have n5_ := Aside0.mk (gS (w := w) hg); have n6_ := n5_; have n7_ := Aside0.mk (nLF BK805 hg); have n8_ := Aside0.mk (nGF BK805 hg); have n9_ := Aside0.mk (nLF BK806 hg); have n10_ := Aside0.mk (nGF BK806 hg); have n11_ := Aside0.mk ((by rw [hg]; exact Nat.ne_of_lt (blk_lt (g := gb813) (o := .cells #[.string ((rd_T178 l1_1 x39_2).f0), .int .i64 ((rd_T178 l1_1 x39_2).f1), .int .i64 ((rd_T178 l1_1 x39_2).f2), .bool ((rd_T178 l1_1 x39_2).f3)] 178 (0, 0)) (by (with_reducible repeat (first | refine blk_drewN ?_ _ | refine blk_drew ?_ | refine blk_alloc ?_ _)); refine blk_put (cs := #[.string ((rd_T178 l1_1 x39_2).f0), .int .i64 ((rd_T178 l1_1 x39_2).f1), .int .i64 ((rd_T178 l1_1 x39_2).f2), .bool false]) ?_ 3 _ rfl; (with_reducible repeat (first | refine blk_drewN ?_ _ | refine blk_drew ?_ | refine blk_alloc ?_ _)); refine blk_put (cs := #[.string ((rd_T178 l1_1 x39_2).f0), .int .i64 ((rd_T178 l1_1 x39_2).f1), .int .i64 0, .bool false]) ?_ 2 _ rfl; (with_reducible repeat (first | refine blk_drewN ?_ _ | refine blk_drew ?_ | refine blk_alloc ?_ _)); refine blk_put (cs := #[.string ((rd_T178 l1_1 x39_2).f0), .int .i64 0, .int .i64 0, .bool false]) ?_ 1 _ rfl; (with_reducible repeat (first | refine blk_drewN ?_ _ | refine blk_drew ?_ | refine blk_alloc ?_ _)); refine blk_put (cs := #[.string (⟨#[]⟩ : ByteArray), .int .i64 0, .int .i64 0, .bool false]) ?_ 0 _ rfl; (with_reducible repeat (first | refine blk_drewN ?_ _ | refine blk_drew ?_ | refine blk_alloc ?_ _)); exact BK813.out)) : gb813 ≠ gb815)); have n12_ := Aside0.mk ((by rw [hg]; exact Nat.ne_of_gt (blk_lt (g := gb813) (o := .cells #[.string ((rd_T178 l1_1 x39_2).f0), .int .i64 ((rd_T178 l1_1 x39_2).f1), .int .i64 ((rd_T178 l1_1 x39_2).f2), .bool ((rd_T178 l1_1 x39_2).f3)] 178 (0, 0)) (by (with_reducible repeat (first | refine blk_drewN ?_ _ | refine blk_drew ?_ | refine blk_alloc ?_ _)); refine blk_put (cs := #[.string ((rd_T178 l1_1 x39_2).f0), .int .i64 ((rd_T178 l1_1 x39_2).f1), .int .i64 ((rd_T178 l1_1 x39_2).f2), .bool false]) ?_ 3 _ rfl; (with_reducible repeat (first | refine blk_drewN ?_ _ | refine blk_drew ?_ | refine blk_alloc ?_ _)); refine blk_put (cs := #[.string ((rd_T178 l1_1 x39_2).f0), .int .i64 ((rd_T178 l1_1 x39_2).f1), .int .i64 0, .bool false]) ?_ 2 _ rfl; (with_reducible repeat (first | refine blk_drewN ?_ _ | refine blk_drew ?_ | refine blk_alloc ?_ _)); refine blk_put (cs := #[.string ((rd_T178 l1_1 x39_2).f0), .int .i64 0, .int .i64 0, .bool false]) ?_ 1 _ rfl; (with_reducible repeat (first | refine blk_drewN ?_ _ | refine blk_drew ?_ | refine blk_alloc ?_ _)); refine blk_put (cs := #[.string (⟨#[]⟩ : ByteArray), .int .i64 0, .int .i64 0, .bool false]) ?_ 0 _ rfl; (with_reducible repeat (first | refine blk_drewN ?_ _ | refine blk_drew ?_ | refine blk_alloc ?_ _)); exact BK813.out)) : gb815 ≠ gb813)); clear BK805; clear BK806; clear BK813; clear HB; have BK805 := n0_; have BK806 := n1_; have BK813 := n2_; have HB := n3_; have BK815 := n4_; have GW815 := n5_; have GE815 := n6_; have NB805_815 := n7_; have NB815_805 := n8_; have NB806_815 := n9_; have NB815_806 := n10_; have NB813_815 := n11_; have NB815_813 := n12_; clear n0_ n1_ n2_ n3_ n4_ n5_ n6_ n7_ n8_ n9_ n10_ n11_ n12_; clear hb hbox hg; have hnb46 := NB815_805.out; have hnc46 := NB805_815.out; have hnb47 := NB815_806.out; have hnc47 := NB806_815.out; have hnb48 := NB815_813.out; have hnc48 := NB813_815.out; obtain ⟨hcz49_0, hcz49_1, hcz49_2, hcz49_3⟩ := cz4 BK815; obtain ⟨hfz49_0, hfz49_1, hfz49_2, hfz49_3⟩ := fz4 BK815; obtain ⟨hcz50_0, hcz50_1, hcz50_2, hcz50_3⟩ := cz4 BK813; obtain ⟨hfz50_0, hfz50_1, hfz50_2, hfz50_3⟩ := fz4 BK813))
              go_ret
              exact ⟨rE, bW⟩
             ·rw [if_neg c38] at H
              have c38b0 : ((!((((rd_T178 l0_1 x39_2).f1) == ((rd_T178 l1_1 x39_2).f1)))) || ((!((((rd_T178 l0_1 x39_2).f3) == ((rd_T178 l1_1 x39_2).f3)))))) = false := by simpa using c38
              clear c38
              have H' := Aside0.mk H
              clear H
              have p812 : 0 ≤ (x39_2 : Int) := odt
              have q812 : x39_2 < (l1_1.length : Int) := odt
              obtain ⟨ad812, e812, hx812_0, hx812_1, hx812_2, hx812_3⟩ := at_T178 HR1_1.out x39_2 p812 q812
              cases e812
              replace hx812_0 := (HB.out.cell (World.block_lt_of_cell? w _ hx812_0)).trans hx812_0
              replace hx812_1 := (HB.out.cell (World.block_lt_of_cell? w _ hx812_1)).trans hx812_1
              replace hx812_2 := (HB.out.cell (World.block_lt_of_cell? w _ hx812_2)).trans hx812_2
              replace hx812_3 := (HB.out.cell (World.block_lt_of_cell? w _ hx812_3)).trans hx812_3
              replace p812 := eq_true p812
              replace q812 := eq_true q812
              go_wp2_with (first | ((with_reducible refine gate_dst (N := 6) rfl ?_); (try (refine gate_guard (by rfl) ?_; dsimp only)); refine bE (N := 6) (cs := #[.string (⟨#[]⟩ : ByteArray), .int .i64 0, .int .i64 0, .bool false]) (t := 178) ?_; intro gb813 hg w51 hbox hb; have n0_ := Aside0.mk (kb BK805 hb); have n1_ := Aside0.mk (kb BK806 hb); have n2_ := Aside0.mk (below_step (w := w) bW hb); have n3_ := Aside0.mk (hbox); have n4_ := Aside0.mk (gS (w := w) hg); have n5_ := n4_; have n6_ := Aside0.mk (nL BK805 hg); have n7_ := Aside0.mk (nG BK805 hg); have n8_ := Aside0.mk (nL BK806 hg); have n9_ := Aside0.mk (nG BK806 hg); clear BK805; clear BK806; clear HB; have BK805 := n0_; have BK806 := n1_; have HB := n2_; have BK813 := n3_; have GW813 := n4_; have GE813 := n5_; have NB805_813 := n6_; have NB813_805 := n7_; have NB806_813 := n8_; have NB813_806 := n9_; clear n0_ n1_ n2_ n3_ n4_ n5_ n6_ n7_ n8_ n9_; clear hb hbox hg; have hnb52 := NB813_805.out; have hnc52 := NB805_813.out; have hnb53 := NB813_806.out; have hnc53 := NB806_813.out; obtain ⟨hcz54_0, hcz54_1, hcz54_2, hcz54_3⟩ := cz4 BK813; obtain ⟨hfz54_0, hfz54_1, hfz54_2, hfz54_3⟩ := fz4 BK813; have hnb55 := NB805_806.out; have hnc55 := NB806_805.out; obtain ⟨hcz56_0, hcz56_1⟩ := cz2 BK805; obtain ⟨hfz56_0, hfz56_1⟩ := fz2 BK805; have p814 : 0 ≤ (x39_2 : Int) := odt; have q814 : x39_2 < (l0_1.length : Int) := odt; obtain ⟨ad814, e814, hx814_0, hx814_1, hx814_2, hx814_3⟩ := at_T178 HR0_1.out x39_2 p814 q814; cases e814; have hn814_0 : ad814.block ≠ gb813 := Nat.ne_of_lt (Nat.lt_of_lt_of_le (by have := World.block_lt_of_cell? _ _ hx814_0; first | rwa [add_block] at this | exact this) GW813.out); have hn814_1 : ad814.block ≠ gb813 := Nat.ne_of_lt (Nat.lt_of_lt_of_le (by have := World.block_lt_of_cell? _ _ hx814_0; first | rwa [add_block] at this | exact this) GW813.out); have hn814_2 : ad814.block ≠ gb813 := Nat.ne_of_lt (Nat.lt_of_lt_of_le (by have := World.block_lt_of_cell? _ _ hx814_0; first | rwa [add_block] at this | exact this) GW813.out); have hn814_3 : ad814.block ≠ gb813 := Nat.ne_of_lt (Nat.lt_of_lt_of_le (by have := World.block_lt_of_cell? _ _ hx814_0; first | rwa [add_block] at this | exact this) GW813.out); replace hx814_0 := (HB.out.cell (World.block_lt_of_cell? w _ hx814_0)).trans hx814_0; replace hx814_1 := (HB.out.cell (World.block_lt_of_cell? w _ hx814_1)).trans hx814_1; replace hx814_2 := (HB.out.cell (World.block_lt_of_cell? w _ hx814_2)).trans hx814_2; replace hx814_3 := (HB.out.cell (World.block_lt_of_cell? w _ hx814_3)).trans hx814_3; replace hx814_0 := (cell_far (p := ⟨gb813, 0, none⟩) (by first | (rw [add_block]; exact hn814_0) | (show (Addr.add _ _).block ≠ _; rw [add_block]; exact hn814_0) | exact hn814_0) (.string ((rd_T178 l1_1 x39_2).f0))).trans hx814_0; replace hx814_1 := (cell_far (p := ⟨gb813, 0, none⟩) (by first | (rw [add_block]; exact hn814_0) | (show (Addr.add _ _).block ≠ _; rw [add_block]; exact hn814_0) | exact hn814_0) (.string ((rd_T178 l1_1 x39_2).f0))).trans hx814_1; replace hx814_2 := (cell_far (p := ⟨gb813, 0, none⟩) (by first | (rw [add_block]; exact hn814_0) | (show (Addr.add _ _).block ≠ _; rw [add_block]; exact hn814_0) | exact hn814_0) (.string ((rd_T178 l1_1 x39_2).f0))).trans hx814_2; replace hx814_3 := (cell_far (p := ⟨gb813, 0, none⟩) (by first | (rw [add_block]; exact hn814_0) | (show (Addr.add _ _).block ≠ _; rw [add_block]; exact hn814_0) | exact hn814_0) (.string ((rd_T178 l1_1 x39_2).f0))).trans hx814_3; replace hx814_0 := (cell_far (p := ⟨gb813, 1, none⟩) (by first | (rw [add_block]; exact hn814_1) | (show (Addr.add _ _).block ≠ _; rw [add_block]; exact hn814_1) | exact hn814_1) (.int .i64 ((rd_T178 l1_1 x39_2).f1))).trans hx814_0; replace hx814_1 := (cell_far (p := ⟨gb813, 1, none⟩) (by first | (rw [add_block]; exact hn814_1) | (show (Addr.add _ _).block ≠ _; rw [add_block]; exact hn814_1) | exact hn814_1) (.int .i64 ((rd_T178 l1_1 x39_2).f1))).trans hx814_1; replace hx814_2 := (cell_far (p := ⟨gb813, 1, none⟩) (by first | (rw [add_block]; exact hn814_1) | (show (Addr.add _ _).block ≠ _; rw [add_block]; exact hn814_1) | exact hn814_1) (.int .i64 ((rd_T178 l1_1 x39_2).f1))).trans hx814_2; replace hx814_3 := (cell_far (p := ⟨gb813, 1, none⟩) (by first | (rw [add_block]; exact hn814_1) | (show (Addr.add _ _).block ≠ _; rw [add_block]; exact hn814_1) | exact hn814_1) (.int .i64 ((rd_T178 l1_1 x39_2).f1))).trans hx814_3; replace hx814_0 := (cell_far (p := ⟨gb813, 2, none⟩) (by first | (rw [add_block]; exact hn814_2) | (show (Addr.add _ _).block ≠ _; rw [add_block]; exact hn814_2) | exact hn814_2) (.int .i64 ((rd_T178 l1_1 x39_2).f2))).trans hx814_0; replace hx814_1 := (cell_far (p := ⟨gb813, 2, none⟩) (by first | (rw [add_block]; exact hn814_2) | (show (Addr.add _ _).block ≠ _; rw [add_block]; exact hn814_2) | exact hn814_2) (.int .i64 ((rd_T178 l1_1 x39_2).f2))).trans hx814_1; replace hx814_2 := (cell_far (p := ⟨gb813, 2, none⟩) (by first | (rw [add_block]; exact hn814_2) | (show (Addr.add _ _).block ≠ _; rw [add_block]; exact hn814_2) | exact hn814_2) (.int .i64 ((rd_T178 l1_1 x39_2).f2))).trans hx814_2; replace hx814_3 := (cell_far (p := ⟨gb813, 2, none⟩) (by first | (rw [add_block]; exact hn814_2) | (show (Addr.add _ _).block ≠ _; rw [add_block]; exact hn814_2) | exact hn814_2) (.int .i64 ((rd_T178 l1_1 x39_2).f2))).trans hx814_3; replace hx814_0 := (cell_far (p := ⟨gb813, 3, none⟩) (by first | (rw [add_block]; exact hn814_3) | (show (Addr.add _ _).block ≠ _; rw [add_block]; exact hn814_3) | exact hn814_3) (.bool ((rd_T178 l1_1 x39_2).f3))).trans hx814_0; replace hx814_1 := (cell_far (p := ⟨gb813, 3, none⟩) (by first | (rw [add_block]; exact hn814_3) | (show (Addr.add _ _).block ≠ _; rw [add_block]; exact hn814_3) | exact hn814_3) (.bool ((rd_T178 l1_1 x39_2).f3))).trans hx814_1; replace hx814_2 := (cell_far (p := ⟨gb813, 3, none⟩) (by first | (rw [add_block]; exact hn814_3) | (show (Addr.add _ _).block ≠ _; rw [add_block]; exact hn814_3) | exact hn814_3) (.bool ((rd_T178 l1_1 x39_2).f3))).trans hx814_2; replace hx814_3 := (cell_far (p := ⟨gb813, 3, none⟩) (by first | (rw [add_block]; exact hn814_3) | (show (Addr.add _ _).block ≠ _; rw [add_block]; exact hn814_3) | exact hn814_3) (.bool ((rd_T178 l1_1 x39_2).f3))).trans hx814_3; clear hn814_0; clear hn814_1; clear hn814_2; clear hn814_3; replace p814 := eq_true p814; replace q814 := eq_true q814) | ((with_reducible refine gate_dst (N := 7) rfl ?_); (try (refine gate_guard (by rfl) ?_; dsimp only)); refine bE (N := 7) (cs := #[.string (⟨#[]⟩ : ByteArray), .int .i64 0, .int .i64 0, .bool false]) (t := 178) ?_; intro gb815 hg w57 hbox hb; have n0_ := Aside0.mk (kbF BK805 hb); have n1_ := Aside0.mk (kbF BK806 hb); have n2_ := Aside0.mk (blk_below (g := gb813) (o := .cells #[.string ((rd_T178 l1_1 x39_2).f0), .int .i64 ((rd_T178 l1_1 x39_2).f1), .int .i64 ((rd_T178 l1_1 x39_2).f2), .bool ((rd_T178 l1_1 x39_2).f3)] 178 (0, 0)) (by (with_reducible repeat (first | refine blk_drewN ?_ _ | refine blk_drew ?_ | refine blk_alloc ?_ _)); refine blk_put (cs := #[.string ((rd_T178 l1_1 x39_2).f0), .int .i64 ((rd_T178 l1_1 x39_2).f1), .int .i64 ((rd_T178 l1_1 x39_2).f2), .bool false]) ?_ 3 _ rfl; (with_reducible repeat (first | refine blk_drewN ?_ _ | refine blk_drew ?_ | refine blk_alloc ?_ _)); refine blk_put (cs := #[.string ((rd_T178 l1_1 x39_2).f0), .int .i64 ((rd_T178 l1_1 x39_2).f1), .int .i64 0, .bool false]) ?_ 2 _ rfl; (with_reducible repeat (first | refine blk_drewN ?_ _ | refine blk_drew ?_ | refine blk_alloc ?_ _)); refine blk_put (cs := #[.string ((rd_T178 l1_1 x39_2).f0), .int .i64 0, .int .i64 0, .bool false]) ?_ 1 _ rfl; (with_reducible repeat (first | refine blk_drewN ?_ _ | refine blk_drew ?_ | refine blk_alloc ?_ _)); refine blk_put (cs := #[.string (⟨#[]⟩ : ByteArray), .int .i64 0, .int .i64 0, .bool false]) ?_ 0 _ rfl; (with_reducible repeat (first | refine blk_drewN ?_ _ | refine blk_drew ?_ | refine blk_alloc ?_ _)); exact BK813.out) hb); have n3_ := Aside0.mk (below_step (w := w) bW hb); have n4_ := Aside0.mk (hbox); have n5_ := Aside0.mk (gS (w := w) hg); have n6_ := n5_; have n7_ := Aside0.mk (nLF BK805 hg); have n8_ := Aside0.mk (nGF BK805 hg); have n9_ := Aside0.mk (nLF BK806 hg); have n10_ := Aside0.mk (nGF BK806 hg); have n11_ := Aside0.mk ((by rw [hg]; exact Nat.ne_of_lt (blk_lt (g := gb813) (o := .cells #[.string ((rd_T178 l1_1 x39_2).f0), .int .i64 ((rd_T178 l1_1 x39_2).f1), .int .i64 ((rd_T178 l1_1 x39_2).f2), .bool ((rd_T178 l1_1 x39_2).f3)] 178 (0, 0)) (by (with_reducible repeat (first | refine blk_drewN ?_ _ | refine blk_drew ?_ | refine blk_alloc ?_ _)); refine blk_put (cs := #[.string ((rd_T178 l1_1 x39_2).f0), .int .i64 ((rd_T178 l1_1 x39_2).f1), .int .i64 ((rd_T178 l1_1 x39_2).f2), .bool false]) ?_ 3 _ rfl; (with_reducible repeat (first | refine blk_drewN ?_ _ | refine blk_drew ?_ | refine blk_alloc ?_ _)); refine blk_put (cs := #[.string ((rd_T178 l1_1 x39_2).f0), .int .i64 ((rd_T178 l1_1 x39_2).f1), .int .i64 0, .bool false]) ?_ 2 _ rfl; (with_reducible repeat (first | refine blk_drewN ?_ _ | refine blk_drew ?_ | refine blk_alloc ?_ _)); refine blk_put (cs := #[.string ((rd_T178 l1_1 x39_2).f0), .int .i64 0, .int .i64 0, .bool false]) ?_ 1 _ rfl; (with_reducible repeat (first | refine blk_drewN ?_ _ | refine blk_drew ?_ | refine blk_alloc ?_ _)); refine blk_put (cs := #[.string (⟨#[]⟩ : ByteArray), .int .i64 0, .int .i64 0, .bool false]) ?_ 0 _ rfl; (with_reducible repeat (first | refine blk_drewN ?_ _ | refine blk_drew ?_ | refine blk_alloc ?_ _)); exact BK813.out)) : gb813 ≠ gb815)); have n12_ := Aside0.mk ((by rw [hg]; exact Nat.ne_of_gt (blk_lt (g := gb813) (o := .cells #[.string ((rd_T178 l1_1 x39_2).f0), .int .i64 ((rd_T178 l1_1 x39_2).f1), .int .i64 ((rd_T178 l1_1 x39_2).f2), .bool ((rd_T178 l1_1 x39_2).f3)] 178 (0, 0)) (by (with_reducible repeat (first | refine blk_drewN ?_ _ | refine blk_drew ?_ | refine blk_alloc ?_ _)); refine blk_put (cs := #[.string ((rd_T178 l1_1 x39_2).f0), .int .i64 ((rd_T178 l1_1 x39_2).f1), .int .i64 ((rd_T178 l1_1 x39_2).f2), .bool false]) ?_ 3 _ rfl; (with_reducible repeat (first | refine blk_drewN ?_ _ | refine blk_drew ?_ | refine blk_alloc ?_ _)); refine blk_put (cs := #[.string ((rd_T178 l1_1 x39_2).f0), .int .i64 ((rd_T178 l1_1 x39_2).f1), .int .i64 0, .bool false]) ?_ 2 _ rfl; (with_reducible repeat (first | refine blk_drewN ?_ _ | refine blk_drew ?_ | refine blk_alloc ?_ _)); refine blk_put (cs := #[.string ((rd_T178 l1_1 x39_2).f0), .int .i64 0, .int .i64 0, .bool false]) ?_ 1 _ rfl; (with_reducible repeat (first | refine blk_drewN ?_ _ | refine blk_drew ?_ | refine blk_alloc ?_ _)); refine blk_put (cs := #[.string (⟨#[]⟩ : ByteArray), .int .i64 0, .int .i64 0, .bool false]) ?_ 0 _ rfl; (with_reducible repeat (first | refine blk_drewN ?_ _ | refine blk_drew ?_ | refine blk_alloc ?_ _)); exact BK813.out)) : gb815 ≠ gb813)); clear BK805; clear BK806; clear BK813; clear HB; have BK805 := n0_; have BK806 := n1_; have BK813 := n2_; have HB := n3_; have BK815 := n4_; have GW815 := n5_; have GE815 := n6_; have NB805_815 := n7_; have NB815_805 := n8_; have NB806_815 := n9_; have NB815_806 := n10_; have NB813_815 := n11_; have NB815_813 := n12_; clear n0_ n1_ n2_ n3_ n4_ n5_ n6_ n7_ n8_ n9_ n10_ n11_ n12_; clear hb hbox hg; have hnb58 := NB815_805.out; have hnc58 := NB805_815.out; have hnb59 := NB815_806.out; have hnc59 := NB806_815.out; have hnb60 := NB815_813.out; have hnc60 := NB813_815.out; obtain ⟨hcz61_0, hcz61_1, hcz61_2, hcz61_3⟩ := cz4 BK815; obtain ⟨hfz61_0, hfz61_1, hfz61_2, hfz61_3⟩ := fz4 BK815; obtain ⟨hcz62_0, hcz62_1, hcz62_2, hcz62_3⟩ := cz4 BK813; obtain ⟨hfz62_0, hfz62_1, hfz62_2, hfz62_3⟩ := fz4 BK813))
              go_roundg k2
              case measure => have := HJ2.out; have := HK2.out; omega
              case rel => exact ⟨(wrap64 (x39_2 + 1)), vE, H', ⟨by have := HJ2.out; have := HK2.out; omega⟩, ⟨by (with_reducible repeat (first | refine blk_drewN ?_ _ | refine blk_drew ?_ | refine blk_alloc ?_ _)); refine blk_far ?_ NB805_815.out _; (with_reducible repeat (first | refine blk_drewN ?_ _ | refine blk_drew ?_ | refine blk_alloc ?_ _)); refine blk_far ?_ NB805_815.out _; (with_reducible repeat (first | refine blk_drewN ?_ _ | refine blk_drew ?_ | refine blk_alloc ?_ _)); refine blk_far ?_ NB805_815.out _; (with_reducible repeat (first | refine blk_drewN ?_ _ | refine blk_drew ?_ | refine blk_alloc ?_ _)); refine blk_far ?_ NB805_815.out _; (with_reducible repeat (first | refine blk_drewN ?_ _ | refine blk_drew ?_ | refine blk_alloc ?_ _)); exact BK805.out⟩, ⟨by (with_reducible repeat (first | refine blk_drewN ?_ _ | refine blk_drew ?_ | refine blk_alloc ?_ _)); refine blk_far ?_ NB806_815.out _; (with_reducible repeat (first | refine blk_drewN ?_ _ | refine blk_drew ?_ | refine blk_alloc ?_ _)); refine blk_far ?_ NB806_815.out _; (with_reducible repeat (first | refine blk_drewN ?_ _ | refine blk_drew ?_ | refine blk_alloc ?_ _)); refine blk_far ?_ NB806_815.out _; (with_reducible repeat (first | refine blk_drewN ?_ _ | refine blk_drew ?_ | refine blk_alloc ?_ _)); refine blk_far ?_ NB806_815.out _; (with_reducible repeat (first | refine blk_drewN ?_ _ | refine blk_drew ?_ | refine blk_alloc ?_ _)); exact BK806.out⟩, ⟨bW⟩⟩
            ·rw [if_neg c37] at H
             have c37b0 : (((rd_T178 l0_1 x39_2).f2) == ((rd_T178 l1_1 x39_2).f2)) = false := beq_eq_false_iff_ne.mpr c37
             have c37b1 : (((rd_T178 l0_1 x39_2).f2) != ((rd_T178 l1_1 x39_2).f2)) = true := bne_iff_ne.mpr c37
             have H' := Aside0.mk H
             clear H
             have p812 : 0 ≤ (x39_2 : Int) := odt
             have q812 : x39_2 < (l1_1.length : Int) := odt
             obtain ⟨ad812, e812, hx812_0, hx812_1, hx812_2, hx812_3⟩ := at_T178 HR1_1.out x39_2 p812 q812
             cases e812
             replace hx812_0 := (HB.out.cell (World.block_lt_of_cell? w _ hx812_0)).trans hx812_0
             replace hx812_1 := (HB.out.cell (World.block_lt_of_cell? w _ hx812_1)).trans hx812_1
             replace hx812_2 := (HB.out.cell (World.block_lt_of_cell? w _ hx812_2)).trans hx812_2
             replace hx812_3 := (HB.out.cell (World.block_lt_of_cell? w _ hx812_3)).trans hx812_3
             replace p812 := eq_true p812
             replace q812 := eq_true q812
             go_wp2_with (first | ((with_reducible refine gate_dst (N := 6) rfl ?_); (try (refine gate_guard (by rfl) ?_; dsimp only)); refine bE (N := 6) (cs := #[.string (⟨#[]⟩ : ByteArray), .int .i64 0, .int .i64 0, .bool false]) (t := 178) ?_; intro gb813 hg w63 hbox hb; have n0_ := Aside0.mk (kb BK805 hb); have n1_ := Aside0.mk (kb BK806 hb); have n2_ := Aside0.mk (below_step (w := w) bW hb); have n3_ := Aside0.mk (hbox); have n4_ := Aside0.mk (gS (w := w) hg); have n5_ := n4_; have n6_ := Aside0.mk (nL BK805 hg); have n7_ := Aside0.mk (nG BK805 hg); have n8_ := Aside0.mk (nL BK806 hg); have n9_ := Aside0.mk (nG BK806 hg); clear BK805; clear BK806; clear HB; have BK805 := n0_; have BK806 := n1_; have HB := n2_; have BK813 := n3_; have GW813 := n4_; have GE813 := n5_; have NB805_813 := n6_; have NB813_805 := n7_; have NB806_813 := n8_; have NB813_806 := n9_; clear n0_ n1_ n2_ n3_ n4_ n5_ n6_ n7_ n8_ n9_; clear hb hbox hg; have hnb64 := NB813_805.out; have hnc64 := NB805_813.out; have hnb65 := NB813_806.out; have hnc65 := NB806_813.out; obtain ⟨hcz66_0, hcz66_1, hcz66_2, hcz66_3⟩ := cz4 BK813; obtain ⟨hfz66_0, hfz66_1, hfz66_2, hfz66_3⟩ := fz4 BK813; have hnb67 := NB805_806.out; have hnc67 := NB806_805.out; obtain ⟨hcz68_0, hcz68_1⟩ := cz2 BK805; obtain ⟨hfz68_0, hfz68_1⟩ := fz2 BK805; have p814 : 0 ≤ (x39_2 : Int) := odt; have q814 : x39_2 < (l0_1.length : Int) := odt; obtain ⟨ad814, e814, hx814_0, hx814_1, hx814_2, hx814_3⟩ := at_T178 HR0_1.out x39_2 p814 q814; cases e814; have hn814_0 : ad814.block ≠ gb813 := Nat.ne_of_lt (Nat.lt_of_lt_of_le (by have := World.block_lt_of_cell? _ _ hx814_0; first | rwa [add_block] at this | exact this) GW813.out); have hn814_1 : ad814.block ≠ gb813 := Nat.ne_of_lt (Nat.lt_of_lt_of_le (by have := World.block_lt_of_cell? _ _ hx814_0; first | rwa [add_block] at this | exact this) GW813.out); have hn814_2 : ad814.block ≠ gb813 := Nat.ne_of_lt (Nat.lt_of_lt_of_le (by have := World.block_lt_of_cell? _ _ hx814_0; first | rwa [add_block] at this | exact this) GW813.out); have hn814_3 : ad814.block ≠ gb813 := Nat.ne_of_lt (Nat.lt_of_lt_of_le (by have := World.block_lt_of_cell? _ _ hx814_0; first | rwa [add_block] at this | exact this) GW813.out); replace hx814_0 := (HB.out.cell (World.block_lt_of_cell? w _ hx814_0)).trans hx814_0; replace hx814_1 := (HB.out.cell (World.block_lt_of_cell? w _ hx814_1)).trans hx814_1; replace hx814_2 := (HB.out.cell (World.block_lt_of_cell? w _ hx814_2)).trans hx814_2; replace hx814_3 := (HB.out.cell (World.block_lt_of_cell? w _ hx814_3)).trans hx814_3; replace hx814_0 := (cell_far (p := ⟨gb813, 0, none⟩) (by first | (rw [add_block]; exact hn814_0) | (show (Addr.add _ _).block ≠ _; rw [add_block]; exact hn814_0) | exact hn814_0) (.string ((rd_T178 l1_1 x39_2).f0))).trans hx814_0; replace hx814_1 := (cell_far (p := ⟨gb813, 0, none⟩) (by first | (rw [add_block]; exact hn814_0) | (show (Addr.add _ _).block ≠ _; rw [add_block]; exact hn814_0) | exact hn814_0) (.string ((rd_T178 l1_1 x39_2).f0))).trans hx814_1; replace hx814_2 := (cell_far (p := ⟨gb813, 0, none⟩) (by first | (rw [add_block]; exact hn814_0) | (show (Addr.add _ _).block ≠ _; rw [add_block]; exact hn814_0) | exact hn814_0) (.string ((rd_T178 l1_1 x39_2).f0))).trans hx814_2; replace hx814_3 := (cell_far (p := ⟨gb813, 0, none⟩) (by first | (rw [add_block]; exact hn814_0) | (show (Addr.add _ _).block ≠ _; rw [add_block]; exact hn814_0) | exact hn814_0) (.string ((rd_T178 l1_1 x39_2).f0))).trans hx814_3; replace hx814_0 := (cell_far (p := ⟨gb813, 1, none⟩) (by first | (rw [add_block]; exact hn814_1) | (show (Addr.add _ _).block ≠ _; rw [add_block]; exact hn814_1) | exact hn814_1) (.int .i64 ((rd_T178 l1_1 x39_2).f1))).trans hx814_0; replace hx814_1 := (cell_far (p := ⟨gb813, 1, none⟩) (by first | (rw [add_block]; exact hn814_1) | (show (Addr.add _ _).block ≠ _; rw [add_block]; exact hn814_1) | exact hn814_1) (.int .i64 ((rd_T178 l1_1 x39_2).f1))).trans hx814_1; replace hx814_2 := (cell_far (p := ⟨gb813, 1, none⟩) (by first | (rw [add_block]; exact hn814_1) | (show (Addr.add _ _).block ≠ _; rw [add_block]; exact hn814_1) | exact hn814_1) (.int .i64 ((rd_T178 l1_1 x39_2).f1))).trans hx814_2; replace hx814_3 := (cell_far (p := ⟨gb813, 1, none⟩) (by first | (rw [add_block]; exact hn814_1) | (show (Addr.add _ _).block ≠ _; rw [add_block]; exact hn814_1) | exact hn814_1) (.int .i64 ((rd_T178 l1_1 x39_2).f1))).trans hx814_3; replace hx814_0 := (cell_far (p := ⟨gb813, 2, none⟩) (by first | (rw [add_block]; exact hn814_2) | (show (Addr.add _ _).block ≠ _; rw [add_block]; exact hn814_2) | exact hn814_2) (.int .i64 ((rd_T178 l1_1 x39_2).f2))).trans hx814_0; replace hx814_1 := (cell_far (p := ⟨gb813, 2, none⟩) (by first | (rw [add_block]; exact hn814_2) | (show (Addr.add _ _).block ≠ _; rw [add_block]; exact hn814_2) | exact hn814_2) (.int .i64 ((rd_T178 l1_1 x39_2).f2))).trans hx814_1; replace hx814_2 := (cell_far (p := ⟨gb813, 2, none⟩) (by first | (rw [add_block]; exact hn814_2) | (show (Addr.add _ _).block ≠ _; rw [add_block]; exact hn814_2) | exact hn814_2) (.int .i64 ((rd_T178 l1_1 x39_2).f2))).trans hx814_2; replace hx814_3 := (cell_far (p := ⟨gb813, 2, none⟩) (by first | (rw [add_block]; exact hn814_2) | (show (Addr.add _ _).block ≠ _; rw [add_block]; exact hn814_2) | exact hn814_2) (.int .i64 ((rd_T178 l1_1 x39_2).f2))).trans hx814_3; replace hx814_0 := (cell_far (p := ⟨gb813, 3, none⟩) (by first | (rw [add_block]; exact hn814_3) | (show (Addr.add _ _).block ≠ _; rw [add_block]; exact hn814_3) | exact hn814_3) (.bool ((rd_T178 l1_1 x39_2).f3))).trans hx814_0; replace hx814_1 := (cell_far (p := ⟨gb813, 3, none⟩) (by first | (rw [add_block]; exact hn814_3) | (show (Addr.add _ _).block ≠ _; rw [add_block]; exact hn814_3) | exact hn814_3) (.bool ((rd_T178 l1_1 x39_2).f3))).trans hx814_1; replace hx814_2 := (cell_far (p := ⟨gb813, 3, none⟩) (by first | (rw [add_block]; exact hn814_3) | (show (Addr.add _ _).block ≠ _; rw [add_block]; exact hn814_3) | exact hn814_3) (.bool ((rd_T178 l1_1 x39_2).f3))).trans hx814_2; replace hx814_3 := (cell_far (p := ⟨gb813, 3, none⟩) (by first | (rw [add_block]; exact hn814_3) | (show (Addr.add _ _).block ≠ _; rw [add_block]; exact hn814_3) | exact hn814_3) (.bool ((rd_T178 l1_1 x39_2).f3))).trans hx814_3; clear hn814_0; clear hn814_1; clear hn814_2; clear hn814_3; replace p814 := eq_true p814; replace q814 := eq_true q814) | ((with_reducible refine gate_dst (N := 7) rfl ?_); (try (refine gate_guard (by rfl) ?_; dsimp only)); refine bE (N := 7) (cs := #[.string (⟨#[]⟩ : ByteArray), .int .i64 0, .int .i64 0, .bool false]) (t := 178) ?_; intro gb815 hg w69 hbox hb; have n0_ := Aside0.mk (kbF BK805 hb); have n1_ := Aside0.mk (kbF BK806 hb); have n2_ := Aside0.mk (blk_below (g := gb813) (o := .cells #[.string ((rd_T178 l1_1 x39_2).f0), .int .i64 ((rd_T178 l1_1 x39_2).f1), .int .i64 ((rd_T178 l1_1 x39_2).f2), .bool ((rd_T178 l1_1 x39_2).f3)] 178 (0, 0)) (by (with_reducible repeat (first | refine blk_drewN ?_ _ | refine blk_drew ?_ | refine blk_alloc ?_ _)); refine blk_put (cs := #[.string ((rd_T178 l1_1 x39_2).f0), .int .i64 ((rd_T178 l1_1 x39_2).f1), .int .i64 ((rd_T178 l1_1 x39_2).f2), .bool false]) ?_ 3 _ rfl; (with_reducible repeat (first | refine blk_drewN ?_ _ | refine blk_drew ?_ | refine blk_alloc ?_ _)); refine blk_put (cs := #[.string ((rd_T178 l1_1 x39_2).f0), .int .i64 ((rd_T178 l1_1 x39_2).f1), .int .i64 0, .bool false]) ?_ 2 _ rfl; (with_reducible repeat (first | refine blk_drewN ?_ _ | refine blk_drew ?_ | refine blk_alloc ?_ _)); refine blk_put (cs := #[.string ((rd_T178 l1_1 x39_2).f0), .int .i64 0, .int .i64 0, .bool false]) ?_ 1 _ rfl; (with_reducible repeat (first | refine blk_drewN ?_ _ | refine blk_drew ?_ | refine blk_alloc ?_ _)); refine blk_put (cs := #[.string (⟨#[]⟩ : ByteArray), .int .i64 0, .int .i64 0, .bool false]) ?_ 0 _ rfl; (with_reducible repeat (first | refine blk_drewN ?_ _ | refine blk_drew ?_ | refine blk_alloc ?_ _)); exact BK813.out) hb); have n3_ := Aside0.mk (below_step (w := w) bW hb); have n4_ := Aside0.mk (hbox); have n5_ := Aside0.mk (gS (w := w) hg); have n6_ := n5_; have n7_ := Aside0.mk (nLF BK805 hg); have n8_ := Aside0.mk (nGF BK805 hg); have n9_ := Aside0.mk (nLF BK806 hg); have n10_ := Aside0.mk (nGF BK806 hg); have n11_ := Aside0.mk ((by rw [hg]; exact Nat.ne_of_lt (blk_lt (g := gb813) (o := .cells #[.string ((rd_T178 l1_1 x39_2).f0), .int .i64 ((rd_T178 l1_1 x39_2).f1), .int .i64 ((rd_T178 l1_1 x39_2).f2), .bool ((rd_T178 l1_1 x39_2).f3)] 178 (0, 0)) (by (with_reducible repeat (first | refine blk_drewN ?_ _ | refine blk_drew ?_ | refine blk_alloc ?_ _)); refine blk_put (cs := #[.string ((rd_T178 l1_1 x39_2).f0), .int .i64 ((rd_T178 l1_1 x39_2).f1), .int .i64 ((rd_T178 l1_1 x39_2).f2), .bool false]) ?_ 3 _ rfl; (with_reducible repeat (first | refine blk_drewN ?_ _ | refine blk_drew ?_ | refine blk_alloc ?_ _)); refine blk_put (cs := #[.string ((rd_T178 l1_1 x39_2).f0), .int .i64 ((rd_T178 l1_1 x39_2).f1), .int .i64 0, .bool false]) ?_ 2 _ rfl; (with_reducible repeat (first | refine blk_drewN ?_ _ | refine blk_drew ?_ | refine blk_alloc ?_ _)); refine blk_put (cs := #[.string ((rd_T178 l1_1 x39_2).f0), .int .i64 0, .int .i64 0, .bool false]) ?_ 1 _ rfl; (with_reducible repeat (first | refine blk_drewN ?_ _ | refine blk_drew ?_ | refine blk_alloc ?_ _)); refine blk_put (cs := #[.string (⟨#[]⟩ : ByteArray), .int .i64 0, .int .i64 0, .bool false]) ?_ 0 _ rfl; (with_reducible repeat (first | refine blk_drewN ?_ _ | refine blk_drew ?_ | refine blk_alloc ?_ _)); exact BK813.out)) : gb813 ≠ gb815)); have n12_ := Aside0.mk ((by rw [hg]; exact Nat.ne_of_gt (blk_lt (g := gb813) (o := .cells #[.string ((rd_T178 l1_1 x39_2).f0), .int .i64 ((rd_T178 l1_1 x39_2).f1), .int .i64 ((rd_T178 l1_1 x39_2).f2), .bool ((rd_T178 l1_1 x39_2).f3)] 178 (0, 0)) (by (with_reducible repeat (first | refine blk_drewN ?_ _ | refine blk_drew ?_ | refine blk_alloc ?_ _)); refine blk_put (cs := #[.string ((rd_T178 l1_1 x39_2).f0), .int .i64 ((rd_T178 l1_1 x39_2).f1), .int .i64 ((rd_T178 l1_1 x39_2).f2), .bool false]) ?_ 3 _ rfl; (with_reducible repeat (first | refine blk_drewN ?_ _ | refine blk_drew ?_ | refine blk_alloc ?_ _)); refine blk_put (cs := #[.string ((rd_T178 l1_1 x39_2).f0), .int .i64 ((rd_T178 l1_1 x39_2).f1), .int .i64 0, .bool false]) ?_ 2 _ rfl; (with_reducible repeat (first | refine blk_drewN ?_ _ | refine blk_drew ?_ | refine blk_alloc ?_ _)); refine blk_put (cs := #[.string ((rd_T178 l1_1 x39_2).f0), .int .i64 0, .int .i64 0, .bool false]) ?_ 1 _ rfl; (with_reducible repeat (first | refine blk_drewN ?_ _ | refine blk_drew ?_ | refine blk_alloc ?_ _)); refine blk_put (cs := #[.string (⟨#[]⟩ : ByteArray), .int .i64 0, .int .i64 0, .bool false]) ?_ 0 _ rfl; (with_reducible repeat (first | refine blk_drewN ?_ _ | refine blk_drew ?_ | refine blk_alloc ?_ _)); exact BK813.out)) : gb815 ≠ gb813)); clear BK805; clear BK806; clear BK813; clear HB; have BK805 := n0_; have BK806 := n1_; have BK813 := n2_; have HB := n3_; have BK815 := n4_; have GW815 := n5_; have GE815 := n6_; have NB805_815 := n7_; have NB815_805 := n8_; have NB806_815 := n9_; have NB815_806 := n10_; have NB813_815 := n11_; have NB815_813 := n12_; clear n0_ n1_ n2_ n3_ n4_ n5_ n6_ n7_ n8_ n9_ n10_ n11_ n12_; clear hb hbox hg; have hnb70 := NB815_805.out; have hnc70 := NB805_815.out; have hnb71 := NB815_806.out; have hnc71 := NB806_815.out; have hnb72 := NB815_813.out; have hnc72 := NB813_815.out; obtain ⟨hcz73_0, hcz73_1, hcz73_2, hcz73_3⟩ := cz4 BK815; obtain ⟨hfz73_0, hfz73_1, hfz73_2, hfz73_3⟩ := fz4 BK815; obtain ⟨hcz74_0, hcz74_1, hcz74_2, hcz74_3⟩ := cz4 BK813; obtain ⟨hfz74_0, hfz74_1, hfz74_2, hfz74_3⟩ := fz4 BK813))
             go_roundg k2
             case measure => have := HJ2.out; have := HK2.out; omega
             case rel => exact ⟨(wrap64 (x39_2 + 1)), vE, H', ⟨by have := HJ2.out; have := HK2.out; omega⟩, ⟨by (with_reducible repeat (first | refine blk_drewN ?_ _ | refine blk_drew ?_ | refine blk_alloc ?_ _)); refine blk_far ?_ NB805_815.out _; (with_reducible repeat (first | refine blk_drewN ?_ _ | refine blk_drew ?_ | refine blk_alloc ?_ _)); refine blk_far ?_ NB805_815.out _; (with_reducible repeat (first | refine blk_drewN ?_ _ | refine blk_drew ?_ | refine blk_alloc ?_ _)); refine blk_far ?_ NB805_815.out _; (with_reducible repeat (first | refine blk_drewN ?_ _ | refine blk_drew ?_ | refine blk_alloc ?_ _)); refine blk_far ?_ NB805_815.out _; (with_reducible repeat (first | refine blk_drewN ?_ _ | refine blk_drew ?_ | refine blk_alloc ?_ _)); exact BK805.out⟩, ⟨by (with_reducible repeat (first | refine blk_drewN ?_ _ | refine blk_drew ?_ | refine blk_alloc ?_ _)); refine blk_far ?_ NB806_815.out _; (with_reducible repeat (first | refine blk_drewN ?_ _ | refine blk_drew ?_ | refine blk_alloc ?_ _)); refine blk_far ?_ NB806_815.out _; (with_reducible repeat (first | refine blk_drewN ?_ _ | refine blk_drew ?_ | refine blk_alloc ?_ _)); refine blk_far ?_ NB806_815.out _; (with_reducible repeat (first | refine blk_drewN ?_ _ | refine blk_drew ?_ | refine blk_alloc ?_ _)); refine blk_far ?_ NB806_815.out _; (with_reducible repeat (first | refine blk_drewN ?_ _ | refine blk_drew ?_ | refine blk_alloc ?_ _)); exact BK806.out⟩, ⟨bW⟩⟩
          ·rw [if_neg c23] at H
           have c23b0 : (((rd_T178 l0_1 x39_2).f0).toList == ((rd_T178 l1_1 x39_2).f0).toList) = false := beq_eq_false_iff_ne.mpr c23
           have c23b1 : (((rd_T178 l0_1 x39_2).f0).toList != ((rd_T178 l1_1 x39_2).f0).toList) = true := bne_iff_ne.mpr c23
           obtain rfl := Option.some.inj H
           have p812 : 0 ≤ (x39_2 : Int) := odt
           have q812 : x39_2 < (l1_1.length : Int) := odt
           obtain ⟨ad812, e812, hx812_0, hx812_1, hx812_2, hx812_3⟩ := at_T178 HR1_1.out x39_2 p812 q812
           cases e812
           replace hx812_0 := (HB.out.cell (World.block_lt_of_cell? w _ hx812_0)).trans hx812_0
           replace hx812_1 := (HB.out.cell (World.block_lt_of_cell? w _ hx812_1)).trans hx812_1
           replace hx812_2 := (HB.out.cell (World.block_lt_of_cell? w _ hx812_2)).trans hx812_2
           replace hx812_3 := (HB.out.cell (World.block_lt_of_cell? w _ hx812_3)).trans hx812_3
           replace p812 := eq_true p812
           replace q812 := eq_true q812
           go_wp2_with (first | ((with_reducible refine gate_dst (N := 6) rfl ?_); (try (refine gate_guard (by rfl) ?_; dsimp only)); refine bE (N := 6) (cs := #[.string (⟨#[]⟩ : ByteArray), .int .i64 0, .int .i64 0, .bool false]) (t := 178) ?_; intro gb813 hg w75 hbox hb; have n0_ := Aside0.mk (kb BK805 hb); have n1_ := Aside0.mk (kb BK806 hb); have n2_ := Aside0.mk (below_step (w := w) bW hb); have n3_ := Aside0.mk (hbox); have n4_ := Aside0.mk (gS (w := w) hg); have n5_ := n4_; have n6_ := Aside0.mk (nL BK805 hg); have n7_ := Aside0.mk (nG BK805 hg); have n8_ := Aside0.mk (nL BK806 hg); have n9_ := Aside0.mk (nG BK806 hg); clear BK805; clear BK806; clear HB; have BK805 := n0_; have BK806 := n1_; have HB := n2_; have BK813 := n3_; have GW813 := n4_; have GE813 := n5_; have NB805_813 := n6_; have NB813_805 := n7_; have NB806_813 := n8_; have NB813_806 := n9_; clear n0_ n1_ n2_ n3_ n4_ n5_ n6_ n7_ n8_ n9_; clear hb hbox hg; have hnb76 := NB813_805.out; have hnc76 := NB805_813.out; have hnb77 := NB813_806.out; have hnc77 := NB806_813.out; obtain ⟨hcz78_0, hcz78_1, hcz78_2, hcz78_3⟩ := cz4 BK813; obtain ⟨hfz78_0, hfz78_1, hfz78_2, hfz78_3⟩ := fz4 BK813; have hnb79 := NB805_806.out; have hnc79 := NB806_805.out; obtain ⟨hcz80_0, hcz80_1⟩ := cz2 BK805; obtain ⟨hfz80_0, hfz80_1⟩ := fz2 BK805; have p814 : 0 ≤ (x39_2 : Int) := odt; have q814 : x39_2 < (l0_1.length : Int) := odt; obtain ⟨ad814, e814, hx814_0, hx814_1, hx814_2, hx814_3⟩ := at_T178 HR0_1.out x39_2 p814 q814; cases e814; have hn814_0 : ad814.block ≠ gb813 := Nat.ne_of_lt (Nat.lt_of_lt_of_le (by have := World.block_lt_of_cell? _ _ hx814_0; first | rwa [add_block] at this | exact this) GW813.out); have hn814_1 : ad814.block ≠ gb813 := Nat.ne_of_lt (Nat.lt_of_lt_of_le (by have := World.block_lt_of_cell? _ _ hx814_0; first | rwa [add_block] at this | exact this) GW813.out); have hn814_2 : ad814.block ≠ gb813 := Nat.ne_of_lt (Nat.lt_of_lt_of_le (by have := World.block_lt_of_cell? _ _ hx814_0; first | rwa [add_block] at this | exact this) GW813.out); have hn814_3 : ad814.block ≠ gb813 := Nat.ne_of_lt (Nat.lt_of_lt_of_le (by have := World.block_lt_of_cell? _ _ hx814_0; first | rwa [add_block] at this | exact this) GW813.out); replace hx814_0 := (HB.out.cell (World.block_lt_of_cell? w _ hx814_0)).trans hx814_0; replace hx814_1 := (HB.out.cell (World.block_lt_of_cell? w _ hx814_1)).trans hx814_1; replace hx814_2 := (HB.out.cell (World.block_lt_of_cell? w _ hx814_2)).trans hx814_2; replace hx814_3 := (HB.out.cell (World.block_lt_of_cell? w _ hx814_3)).trans hx814_3; replace hx814_0 := (cell_far (p := ⟨gb813, 0, none⟩) (by first | (rw [add_block]; exact hn814_0) | (show (Addr.add _ _).block ≠ _; rw [add_block]; exact hn814_0) | exact hn814_0) (.string ((rd_T178 l1_1 x39_2).f0))).trans hx814_0; replace hx814_1 := (cell_far (p := ⟨gb813, 0, none⟩) (by first | (rw [add_block]; exact hn814_0) | (show (Addr.add _ _).block ≠ _; rw [add_block]; exact hn814_0) | exact hn814_0) (.string ((rd_T178 l1_1 x39_2).f0))).trans hx814_1; replace hx814_2 := (cell_far (p := ⟨gb813, 0, none⟩) (by first | (rw [add_block]; exact hn814_0) | (show (Addr.add _ _).block ≠ _; rw [add_block]; exact hn814_0) | exact hn814_0) (.string ((rd_T178 l1_1 x39_2).f0))).trans hx814_2; replace hx814_3 := (cell_far (p := ⟨gb813, 0, none⟩) (by first | (rw [add_block]; exact hn814_0) | (show (Addr.add _ _).block ≠ _; rw [add_block]; exact hn814_0) | exact hn814_0) (.string ((rd_T178 l1_1 x39_2).f0))).trans hx814_3; replace hx814_0 := (cell_far (p := ⟨gb813, 1, none⟩) (by first | (rw [add_block]; exact hn814_1) | (show (Addr.add _ _).block ≠ _; rw [add_block]; exact hn814_1) | exact hn814_1) (.int .i64 ((rd_T178 l1_1 x39_2).f1))).trans hx814_0; replace hx814_1 := (cell_far (p := ⟨gb813, 1, none⟩) (by first | (rw [add_block]; exact hn814_1) | (show (Addr.add _ _).block ≠ _; rw [add_block]; exact hn814_1) | exact hn814_1) (.int .i64 ((rd_T178 l1_1 x39_2).f1))).trans hx814_1; replace hx814_2 := (cell_far (p := ⟨gb813, 1, none⟩) (by first | (rw [add_block]; exact hn814_1) | (show (Addr.add _ _).block ≠ _; rw [add_block]; exact hn814_1) | exact hn814_1) (.int .i64 ((rd_T178 l1_1 x39_2).f1))).trans hx814_2; replace hx814_3 := (cell_far (p := ⟨gb813, 1, none⟩) (by first | (rw [add_block]; exact hn814_1) | (show (Addr.add _ _).block ≠ _; rw [add_block]; exact hn814_1) | exact hn814_1) (.int .i64 ((rd_T178 l1_1 x39_2).f1))).trans hx814_3; replace hx814_0 := (cell_far (p := ⟨gb813, 2, none⟩) (by first | (rw [add_block]; exact hn814_2) | (show (Addr.add _ _).block ≠ _; rw [add_block]; exact hn814_2) | exact hn814_2) (.int .i64 ((rd_T178 l1_1 x39_2).f2))).trans hx814_0; replace hx814_1 := (cell_far (p := ⟨gb813, 2, none⟩) (by first | (rw [add_block]; exact hn814_2) | (show (Addr.add _ _).block ≠ _; rw [add_block]; exact hn814_2) | exact hn814_2) (.int .i64 ((rd_T178 l1_1 x39_2).f2))).trans hx814_1; replace hx814_2 := (cell_far (p := ⟨gb813, 2, none⟩) (by first | (rw [add_block]; exact hn814_2) | (show (Addr.add _ _).block ≠ _; rw [add_block]; exact hn814_2) | exact hn814_2) (.int .i64 ((rd_T178 l1_1 x39_2).f2))).trans hx814_2; replace hx814_3 := (cell_far (p := ⟨gb813, 2, none⟩) (by first | (rw [add_block]; exact hn814_2) | (show (Addr.add _ _).block ≠ _; rw [add_block]; exact hn814_2) | exact hn814_2) (.int .i64 ((rd_T178 l1_1 x39_2).f2))).trans hx814_3; replace hx814_0 := (cell_far (p := ⟨gb813, 3, none⟩) (by first | (rw [add_block]; exact hn814_3) | (show (Addr.add _ _).block ≠ _; rw [add_block]; exact hn814_3) | exact hn814_3) (.bool ((rd_T178 l1_1 x39_2).f3))).trans hx814_0; replace hx814_1 := (cell_far (p := ⟨gb813, 3, none⟩) (by first | (rw [add_block]; exact hn814_3) | (show (Addr.add _ _).block ≠ _; rw [add_block]; exact hn814_3) | exact hn814_3) (.bool ((rd_T178 l1_1 x39_2).f3))).trans hx814_1; replace hx814_2 := (cell_far (p := ⟨gb813, 3, none⟩) (by first | (rw [add_block]; exact hn814_3) | (show (Addr.add _ _).block ≠ _; rw [add_block]; exact hn814_3) | exact hn814_3) (.bool ((rd_T178 l1_1 x39_2).f3))).trans hx814_2; replace hx814_3 := (cell_far (p := ⟨gb813, 3, none⟩) (by first | (rw [add_block]; exact hn814_3) | (show (Addr.add _ _).block ≠ _; rw [add_block]; exact hn814_3) | exact hn814_3) (.bool ((rd_T178 l1_1 x39_2).f3))).trans hx814_3; clear hn814_0; clear hn814_1; clear hn814_2; clear hn814_3; replace p814 := eq_true p814; replace q814 := eq_true q814) | ((with_reducible refine gate_dst (N := 7) rfl ?_); (try (refine gate_guard (by rfl) ?_; dsimp only)); refine bE (N := 7) (cs := #[.string (⟨#[]⟩ : ByteArray), .int .i64 0, .int .i64 0, .bool false]) (t := 178) ?_; intro gb815 hg w81 hbox hb; have n0_ := Aside0.mk (kbF BK805 hb); have n1_ := Aside0.mk (kbF BK806 hb); have n2_ := Aside0.mk (blk_below (g := gb813) (o := .cells #[.string ((rd_T178 l1_1 x39_2).f0), .int .i64 ((rd_T178 l1_1 x39_2).f1), .int .i64 ((rd_T178 l1_1 x39_2).f2), .bool ((rd_T178 l1_1 x39_2).f3)] 178 (0, 0)) (by (with_reducible repeat (first | refine blk_drewN ?_ _ | refine blk_drew ?_ | refine blk_alloc ?_ _)); refine blk_put (cs := #[.string ((rd_T178 l1_1 x39_2).f0), .int .i64 ((rd_T178 l1_1 x39_2).f1), .int .i64 ((rd_T178 l1_1 x39_2).f2), .bool false]) ?_ 3 _ rfl; (with_reducible repeat (first | refine blk_drewN ?_ _ | refine blk_drew ?_ | refine blk_alloc ?_ _)); refine blk_put (cs := #[.string ((rd_T178 l1_1 x39_2).f0), .int .i64 ((rd_T178 l1_1 x39_2).f1), .int .i64 0, .bool false]) ?_ 2 _ rfl; (with_reducible repeat (first | refine blk_drewN ?_ _ | refine blk_drew ?_ | refine blk_alloc ?_ _)); refine blk_put (cs := #[.string ((rd_T178 l1_1 x39_2).f0), .int .i64 0, .int .i64 0, .bool false]) ?_ 1 _ rfl; (with_reducible repeat (first | refine blk_drewN ?_ _ | refine blk_drew ?_ | refine blk_alloc ?_ _)); refine blk_put (cs := #[.string (⟨#[]⟩ : ByteArray), .int .i64 0, .int .i64 0, .bool false]) ?_ 0 _ rfl; (with_reducible repeat (first | refine blk_drewN ?_ _ | refine blk_drew ?_ | refine blk_alloc ?_ _)); exact BK813.out) hb); have n3_ := Aside0.mk (below_step (w := w) bW hb); have n4_ := Aside0.mk (hbox); have n5_ := Aside0.mk (gS (w := w) hg); have n6_ := n5_; have n7_ := Aside0.mk (nLF BK805 hg); have n8_ := Aside0.mk (nGF BK805 hg); have n9_ := Aside0.mk (nLF BK806 hg); have n10_ := Aside0.mk (nGF BK806 hg); have n11_ := Aside0.mk ((by rw [hg]; exact Nat.ne_of_lt (blk_lt (g := gb813) (o := .cells #[.string ((rd_T178 l1_1 x39_2).f0), .int .i64 ((rd_T178 l1_1 x39_2).f1), .int .i64 ((rd_T178 l1_1 x39_2).f2), .bool ((rd_T178 l1_1 x39_2).f3)] 178 (0, 0)) (by (with_reducible repeat (first | refine blk_drewN ?_ _ | refine blk_drew ?_ | refine blk_alloc ?_ _)); refine blk_put (cs := #[.string ((rd_T178 l1_1 x39_2).f0), .int .i64 ((rd_T178 l1_1 x39_2).f1), .int .i64 ((rd_T178 l1_1 x39_2).f2), .bool false]) ?_ 3 _ rfl; (with_reducible repeat (first | refine blk_drewN ?_ _ | refine blk_drew ?_ | refine blk_alloc ?_ _)); refine blk_put (cs := #[.string ((rd_T178 l1_1 x39_2).f0), .int .i64 ((rd_T178 l1_1 x39_2).f1), .int .i64 0, .bool false]) ?_ 2 _ rfl; (with_reducible repeat (first | refine blk_drewN ?_ _ | refine blk_drew ?_ | refine blk_alloc ?_ _)); refine blk_put (cs := #[.string ((rd_T178 l1_1 x39_2).f0), .int .i64 0, .int .i64 0, .bool false]) ?_ 1 _ rfl; (with_reducible repeat (first | refine blk_drewN ?_ _ | refine blk_drew ?_ | refine blk_alloc ?_ _)); refine blk_put (cs := #[.string (⟨#[]⟩ : ByteArray), .int .i64 0, .int .i64 0, .bool false]) ?_ 0 _ rfl; (with_reducible repeat (first | refine blk_drewN ?_ _ | refine blk_drew ?_ | refine blk_alloc ?_ _)); exact BK813.out)) : gb813 ≠ gb815)); have n12_ := Aside0.mk ((by rw [hg]; exact Nat.ne_of_gt (blk_lt (g := gb813) (o := .cells #[.string ((rd_T178 l1_1 x39_2).f0), .int .i64 ((rd_T178 l1_1 x39_2).f1), .int .i64 ((rd_T178 l1_1 x39_2).f2), .bool ((rd_T178 l1_1 x39_2).f3)] 178 (0, 0)) (by (with_reducible repeat (first | refine blk_drewN ?_ _ | refine blk_drew ?_ | refine blk_alloc ?_ _)); refine blk_put (cs := #[.string ((rd_T178 l1_1 x39_2).f0), .int .i64 ((rd_T178 l1_1 x39_2).f1), .int .i64 ((rd_T178 l1_1 x39_2).f2), .bool false]) ?_ 3 _ rfl; (with_reducible repeat (first | refine blk_drewN ?_ _ | refine blk_drew ?_ | refine blk_alloc ?_ _)); refine blk_put (cs := #[.string ((rd_T178 l1_1 x39_2).f0), .int .i64 ((rd_T178 l1_1 x39_2).f1), .int .i64 0, .bool false]) ?_ 2 _ rfl; (with_reducible repeat (first | refine blk_drewN ?_ _ | refine blk_drew ?_ | refine blk_alloc ?_ _)); refine blk_put (cs := #[.string ((rd_T178 l1_1 x39_2).f0), .int .i64 0, .int .i64 0, .bool false]) ?_ 1 _ rfl; (with_reducible repeat (first | refine blk_drewN ?_ _ | refine blk_drew ?_ | refine blk_alloc ?_ _)); refine blk_put (cs := #[.string (⟨#[]⟩ : ByteArray), .int .i64 0, .int .i64 0, .bool false]) ?_ 0 _ rfl; (with_reducible repeat (first | refine blk_drewN ?_ _ | refine blk_drew ?_ | refine blk_alloc ?_ _)); exact BK813.out)) : gb815 ≠ gb813)); clear BK805; clear BK806; clear BK813; clear HB; have BK805 := n0_; have BK806 := n1_; have BK813 := n2_; have HB := n3_; have BK815 := n4_; have GW815 := n5_; have GE815 := n6_; have NB805_815 := n7_; have NB815_805 := n8_; have NB806_815 := n9_; have NB815_806 := n10_; have NB813_815 := n11_; have NB815_813 := n12_; clear n0_ n1_ n2_ n3_ n4_ n5_ n6_ n7_ n8_ n9_ n10_ n11_ n12_; clear hb hbox hg; have hnb82 := NB815_805.out; have hnc82 := NB805_815.out; have hnb83 := NB815_806.out; have hnc83 := NB806_815.out; have hnb84 := NB815_813.out; have hnc84 := NB813_815.out; obtain ⟨hcz85_0, hcz85_1, hcz85_2, hcz85_3⟩ := cz4 BK815; obtain ⟨hfz85_0, hfz85_1, hfz85_2, hfz85_3⟩ := fz4 BK815; obtain ⟨hcz86_0, hcz86_1, hcz86_2, hcz86_3⟩ := cz4 BK813; obtain ⟨hfz86_0, hfz86_1, hfz86_2, hfz86_3⟩ := fz4 BK813))
           go_ret
           exact ⟨rE, bW⟩
         ·rw [if_neg c22] at H
          exact absurd H (by simp)
        ·rw [if_neg c21] at H
         exact absurd H (by simp)
       ·rw [if_neg c20] at H
        exact absurd H (by simp)
      ·rw [if_neg c19] at H
       have c19b0 : decide (x39_2 < (l1_1.length : Int)) = false := decide_eq_false c19
       clear c19
       obtain rfl := Option.some.inj H
       go_wp2
       go_ret
       exact ⟨rE, bW⟩
end Go.Proofs.Ytcpljigliklgcaa.Q
end

section
namespace Go.Proofs.Ytcpljigliklgcaa.Q
open Go.RowKit Go.Proofs.YtcpljigliklgcaaW.PrintWords Go.Proofs.YtcpljigliklgcaaW.PrintLast Go.Proofs.YtcpljigliklgcaaW.PrintMore
attribute [local go_sem] max2_int min2_int max_two min_two max_three min_three max_four min_four   -- for this text's walks alone
set_option linter.unusedVariables false
set_option linter.unusedSimpArgs false
attribute [local go_sem] bin_leq bin_gtr bin_geq
def impl_GrowsFrom.f (k : Nat) (l0_0 : List (S118)) (l0_1 : List (S178)) (l1_0 : List (S118)) (l1_1 : List (S178)) : Option (Bool × Int) := (impl_BaseOK.f k l0_0 l0_1).bind fun t818 => (if t818 = true then ((impl_BaseOK.f k l1_0 l1_1).bind fun t819 => (if t819 = true then ((impl_Base_grows.f k l1_0 l1_1 l0_0 l0_1).bind fun t820 => (some (t820, 0))) else (some (false, 1)))) else (some (false, 1)))
set_option maxHeartbeats 8000000 in
set_option maxRecDepth 100000 in
theorem impl_GrowsFrom.calls (k : Nat) (A0_0 : Option Addr) (c0_0 : Nat) (l0_0 : List (S118)) (A0_1 : Option Addr) (c0_1 : Nat) (l0_1 : List (S178)) (A1_0 : Option Addr) (c1_0 : Nat) (l1_0 : List (S118)) (A1_1 : Option Addr) (c1_1 : Nat) (l1_1 : List (S178)) (r1 : Bool) (r2 : Int) (w : World) (hr0_0 : Kd.C k118 w A0_0 l0_0.length l0_0) (hc0_0 : l0_0.length ≤ c0_0) (hr0_1 : Kd.C k178 w A0_1 l0_1.length l0_1) (hc0_1 : l0_1.length ≤ c0_1) (hr1_0 : Kd.C k118 w A1_0 l1_0.length l1_0) (hc1_0 : l1_0.length ≤ c1_0) (hr1_1 : Kd.C k178 w A1_1 l1_1.length l1_1) (hc1_1 : l1_1.length ≤ c1_1) (h : impl_GrowsFrom.f k l0_0 l0_1 l1_0 l1_1 = some (r1, r2)) :
    Calls Try.prog 49 #[.agg #[.slice A0_0 l0_0.length c0_0, .slice A0_1 l0_1.length c0_1], .agg #[.slice A1_0 l1_0.length c1_0, .slice A1_1 l1_1.length c1_1]] w fun e w' => e = .returned (.tuple #[.bool r1, .int .i64 r2]) ∧ Below w.heap.size w w' := by
  have hu66 := Try.underlying66
  have HR0_0 := Aside0.mk hr0_0
  have HC0_0 := Aside0.mk hc0_0
  clear hr0_0 hc0_0
  have HR0_1 := Aside0.mk hr0_1
  have HC0_1 := Aside0.mk hc0_1
  clear hr0_1 hc0_1
  have HR1_0 := Aside0.mk hr1_0
  have HC1_0 := Aside0.mk hc1_0
  clear hr1_0 hc1_0
  have HR1_1 := Aside0.mk hr1_1
  have HC1_1 := Aside0.mk hc1_1
  clear hr1_1 hc1_1
  have HB := Aside0.mk (Below.refl w.heap.size w)
  have H : ((impl_BaseOK.f k l0_0 l0_1).bind fun t818 => (if t818 = true then ((impl_BaseOK.f k l1_0 l1_1).bind fun t819 => (if t819 = true then ((impl_Base_grows.f k l1_0 l1_1 l0_0 l0_1).bind fun t820 => (some (t820, 0))) else (some (false, 1)))) else (some (false, 1)))) = some (r1, r2) := h
  clear h
  replace H := Option.bind_eq_some_iff.mp H
  obtain ⟨t818, A30, H⟩ := H
  replace H : (if t818 = true then ((impl_BaseOK.f k l1_0 l1_1).bind fun t819 => (if t819 = true then ((impl_Base_grows.f k l1_0 l1_1 l0_0 l0_1).bind fun t820 => (some (t820, 0))) else (some (false, 1)))) else (some (false, 1))) = some (r1, r2) := H
  have A3 := Aside0.mk A30
  clear A30
  by_cases c4 : t818 = true
  · subst c4
    have H1 : ((impl_BaseOK.f k l1_0 l1_1).bind fun t819 => (if t819 = true then ((impl_Base_grows.f k l1_0 l1_1 l0_0 l0_1).bind fun t820 => (some (t820, 0))) else (some (false, 1)))) = some (r1, r2) := by rw [if_pos rfl] at H; exact H
    clear H
    have H := H1
    clear H1
    replace H := Option.bind_eq_some_iff.mp H
    obtain ⟨t819, A50, H⟩ := H
    replace H : (if t819 = true then ((impl_Base_grows.f k l1_0 l1_1 l0_0 l0_1).bind fun t820 => (some (t820, 0))) else (some (false, 1))) = some (r1, r2) := H
    have A5 := Aside0.mk A50
    clear A50
    by_cases c6 : t819 = true
    · subst c6
      have H1 : ((impl_Base_grows.f k l1_0 l1_1 l0_0 l0_1).bind fun t820 => (some (t820, 0))) = some (r1, r2) := by rw [if_pos rfl] at H; exact H
      clear H
      have H := H1
      clear H1
      replace H := Option.bind_eq_some_iff.mp H
      obtain ⟨t820, A70, H⟩ := H
      replace H : (some (t820, 0)) = some (r1, r2) := H
      have A7 := Aside0.mk A70
      clear A70
      simp only [Option.some.injEq, Prod.mk.injEq] at H
      obtain ⟨rfl, rfl⟩ := H
      go_enter Try.func49, Try.ntmps49
      go_wp2_with (first | ((with_reducible refine gate_dst (N := 2) rfl ?_); refine bE (N := 2) (cs := #[.slice A0_0 l0_0.length c0_0, .slice A0_1 l0_1.length c0_1]) (t := 66) ?_; intro gb816 hg w8 hbox hb; have n0_ := Aside0.mk (below_step (w := w) bW hb); have n1_ := Aside0.mk (hbox); have n2_ := Aside0.mk (gS (w := w) hg); have n3_ := n2_; clear HB; have HB := n0_; have BK816 := n1_; have GW816 := n2_; have GE816 := n3_; clear n0_ n1_ n2_ n3_; clear hb hbox hg) | ((with_reducible refine gate_dst (N := 3) rfl ?_); refine bE (N := 3) (cs := #[.slice A1_0 l1_0.length c1_0, .slice A1_1 l1_1.length c1_1]) (t := 66) ?_; intro gb817 hg w9 hbox hb; have n0_ := Aside0.mk (kb BK816 hb); have n1_ := Aside0.mk (below_step (w := w) bW hb); have n2_ := Aside0.mk (hbox); have n3_ := Aside0.mk (gS (w := w) hg); have n4_ := n3_; have n5_ := Aside0.mk (nL BK816 hg); have n6_ := Aside0.mk (nG BK816 hg); clear BK816; clear HB; have BK816 := n0_; have HB := n1_; have BK817 := n2_; have GW817 := n3_; have GE817 := n4_; have NB816_817 := n5_; have NB817_816 := n6_; clear n0_ n1_ n2_ n3_ n4_ n5_ n6_; clear hb hbox hg; have hnb10 := NB816_817.out; have hnc10 := NB817_816.out; obtain ⟨hcz11_0, hcz11_1⟩ := cz2 BK816; obtain ⟨hfz11_0, hfz11_1⟩ := fz2 BK816) | ((with_reducible refine gate_callee (f := 124) rfl ?_); refine goesL_ (some 7) rfl rfl Try.func124 (by kernel_rfl) rfl #[.agg #[.slice A0_0 l0_0.length c0_0, .slice A0_1 l0_1.length c0_1]] rfl gA ?_; (with_reducible refine (impl_BaseOK.calls k _ _ l0_0 _ _ l0_1 true _ ?side1 ?side2 ?side3 ?side4 A3.out).mono ?_); (case side1 => exact cB HR0_0); (case side2 => exact HC0_0.out); (case side3 => exact cB HR0_1); (case side4 => exact HC0_1.out); rintro e w12 ⟨rfl, hb⟩; refine ⟨_, rfl, ?_⟩; have n0_ := Aside0.mk (kb BK816 hb); have n1_ := Aside0.mk (kb BK817 hb); have n2_ := Aside0.mk (below_step (w := w) bW hb); clear BK816; clear BK817; clear HB; have BK816 := n0_; have BK817 := n1_; have HB := n2_; clear n0_ n1_ n2_; (try clear hb); (try clear hb2); (try clear hk); (try clear hi); obtain ⟨hcz13_0, hcz13_1⟩ := cz2 BK817; obtain ⟨hfz13_0, hfz13_1⟩ := fz2 BK817) | (go_at_call 124; (with_reducible refine (impl_BaseOK.calls k _ _ l1_0 _ _ l1_1 true _ ?side1 ?side2 ?side3 ?side4 A5.out).mono ?_); (case side1 => exact cB HR1_0); (case side2 => exact HC1_0.out); (case side3 => exact cB HR1_1); (case side4 => exact HC1_1.out); rintro e w14 ⟨rfl, hb⟩; have n0_ := Aside0.mk (kb BK816 hb); have n1_ := Aside0.mk (kb BK817 hb); have n2_ := Aside0.mk (below_step (w := w) bW hb); clear BK816; clear BK817; clear HB; have BK816 := n0_; have BK817 := n1_; have HB := n2_; clear n0_ n1_ n2_; (try clear hb); (try clear hb2); (try clear hk); (try clear hi); obtain ⟨hcz15_0, hcz15_1⟩ := cz2 BK817; obtain ⟨hfz15_0, hfz15_1⟩ := fz2 BK817; obtain ⟨hcz16_0, hcz16_1⟩ := cz2 BK816; obtain ⟨hfz16_0, hfz16_1⟩ := fz2 BK816) | ((with_reducible refine gate_callee (f := 125) rfl ?_); refine goesL_ (some 16) rfl rfl Try.func125 (by kernel_rfl) rfl #[.agg #[.slice A1_0 l1_0.length c1_0, .slice A1_1 l1_1.length c1_1], .agg #[.slice A0_0 l0_0.length c0_0, .slice A0_1 l0_1.length c0_1]] rfl gA ?_; (with_reducible refine (impl_Base_grows.calls k _ _ l1_0 _ _ l1_1 _ _ l0_0 _ _ l0_1 t820 _ ?side1 ?side2 ?side3 ?side4 ?side5 ?side6 ?side7 ?side8 A7.out).mono ?_); (case side1 => exact cB HR1_0); (case side2 => exact HC1_0.out); (case side3 => exact cB HR1_1); (case side4 => exact HC1_1.out); (case side5 => exact cB HR0_0); (case side6 => exact HC0_0.out); (case side7 => exact cB HR0_1); (case side8 => exact HC0_1.out); rintro e w17 ⟨rfl, hb⟩; refine ⟨_, rfl, ?_⟩; have n0_ := Aside0.mk (kb BK816 hb); have n1_ := Aside0.mk (kb BK817 hb); have n2_ := Aside0.mk (below_step (w := w) bW hb); clear BK816; clear BK817; clear HB; have BK816 := n0_; have BK817 := n1_; have HB := n2_; clear n0_ n1_ n2_; (try clear hb); (try clear hb2); (try clear hk); (try clear hi)))
      go_ret2
      exact ⟨rE, bW⟩
    · replace c6 := Bool.eq_false_iff.mpr c6
      subst c6
      have H1 : (some (false, 1)) = some (r1, r2) := by rw [if_neg (show ¬ (false = true) by decide)] at H; exact H
      clear H
      have H := H1
      clear H1
      simp only [Option.some.injEq, Prod.mk.injEq] at H
      obtain ⟨rfl, rfl⟩ := H
      go_enter Try.func49, Try.ntmps49
      go_wp2_with (first | ((with_reducible refine gate_dst (N := 2) rfl ?_); refine bE (N := 2) (cs := #[.slice A0_0 l0_0.length c0_0, .slice A0_1 l0_1.length c0_1]) (t := 66) ?_; intro gb816 hg w18 hbox hb; have n0_ := Aside0.mk (below_step (w := w) bW hb); have n1_ := Aside0.mk (hbox); have n2_ := Aside0.mk (gS (w := w) hg); have n3_ := n2_; clear HB; have HB := n0_; have BK816 := n1_; have GW816 := n2_; have GE816 := n3_; clear n0_ n1_ n2_ n3_; clear hb hbox hg) | ((with_reducible refine gate_dst (N := 3) rfl ?_); refine bE (N := 3) (cs := #[.slice A1_0 l1_0.length c1_0, .slice A1_1 l1_1.length c1_1]) (t := 66) ?_; intro gb817 hg w19 hbox hb; have n0_ := Aside0.mk (kb BK816 hb); have n1_ := Aside0.mk (below_step (w := w) bW hb); have n2_ := Aside0.mk (hbox); have n3_ := Aside0.mk (gS (w := w) hg); have n4_ := n3_; have n5_ := Aside0.mk (nL BK816 hg); have n6_ := Aside0.mk (nG BK816 hg); clear BK816; clear HB; have BK816 := n0_; have HB := n1_; have BK817 := n2_; have GW817 := n3_; have GE817 := n4_; have NB816_817 := n5_; have NB817_816 := n6_; clear n0_ n1_ n2_ n3_ n4_ n5_ n6_; clear hb hbox hg; have hnb20 := NB816_817.out; have hnc20 := NB817_816.out; obtain ⟨hcz21_0, hcz21_1⟩ := cz2 BK816; obtain ⟨hfz21_0, hfz21_1⟩ := fz2 BK816) | ((with_reducible refine gate_callee (f := 124) rfl ?_); refine goesL_ (some 7) rfl rfl Try.func124 (by kernel_rfl) rfl #[.agg #[.slice A0_0 l0_0.length c0_0, .slice A0_1 l0_1.length c0_1]] rfl gA ?_; (with_reducible refine (impl_BaseOK.calls k _ _ l0_0 _ _ l0_1 true _ ?side1 ?side2 ?side3 ?side4 A3.out).mono ?_); (case side1 => exact cB HR0_0); (case side2 => exact HC0_0.out); (case side3 => exact cB HR0_1); (case side4 => exact HC0_1.out); rintro e w22 ⟨rfl, hb⟩; refine ⟨_, rfl, ?_⟩; have n0_ := Aside0.mk (kb BK816 hb); have n1_ := Aside0.mk (kb BK817 hb); have n2_ := Aside0.mk (below_step (w := w) bW hb); clear BK816; clear BK817; clear HB; have BK816 := n0_; have BK817 := n1_; have HB := n2_; clear n0_ n1_ n2_; (try clear hb); (try clear hb2); (try clear hk); (try clear hi); obtain ⟨hcz23_0, hcz23_1⟩ := cz2 BK817; obtain ⟨hfz23_0, hfz23_1⟩ := fz2 BK817) | (go_at_call 124; (with_reducible refine (impl_BaseOK.calls k _ _ l1_0 _ _ l1_1 false _ ?side1 ?side2 ?side3 ?side4 A5.out).mono ?_); (case side1 => exact cB HR1_0); (case side2 => exact HC1_0.out); (case side3 => exact cB HR1_1); (case side4 => exact HC1_1.out); rintro e w24 ⟨rfl, hb⟩; have n0_ := Aside0.mk (kb BK816 hb); have n1_ := Aside0.mk (kb BK817 hb); have n2_ := Aside0.mk (below_step (w := w) bW hb); clear BK816; clear BK817; clear HB; have BK816 := n0_; have BK817 := n1_; have HB := n2_; clear n0_ n1_ n2_; (try clear hb); (try clear hb2); (try clear hk); (try clear hi)))
      go_ret2
      exact ⟨rE, bW⟩
  · replace c4 := Bool.eq_false_iff.mpr c4
    subst c4
    have H1 : (some (false, 1)) = some (r1, r2) := by rw [if_neg (show ¬ (false = true) by decide)] at H; exact H
    clear H
    have H := H1
    clear H1
    simp only [Option.some.injEq, Prod.mk.injEq] at H
    obtain ⟨rfl, rfl⟩ := H
    go_enter Try.func49, Try.ntmps49
    go_wp2_with (first | ((with_reducible refine gate_dst (N := 2) rfl ?_); refine bE (N := 2) (cs := #[.slice A0_0 l0_0.length c0_0, .slice A0_1 l0_1.length c0_1]) (t := 66) ?_; intro gb816 hg w25 hbox hb; have n0_ := Aside0.mk (below_step (w := w) bW hb); have n1_ := Aside0.mk (hbox); have n2_ := Aside0.mk (gS (w := w) hg); have n3_ := n2_; clear HB; have HB := n0_; have BK816 := n1_; have GW816 := n2_; have GE816 := n3_; clear n0_ n1_ n2_ n3_; clear hb hbox hg) | ((with_reducible refine gate_dst (N := 3) rfl ?_); refine bE (N := 3) (cs := #[.slice A1_0 l1_0.length c1_0, .slice A1_1 l1_1.length c1_1]) (t := 66) ?_; intro gb817 hg w26 hbox hb; have n0_ := Aside0.mk (kb BK816 hb); have n1_ := Aside0.mk (below_step (w := w) bW hb); have n2_ := Aside0.mk (hbox); have n3_ := Aside0.mk (gS (w := w) hg); have n4_ := n3_; have n5_ := Aside0.mk (nL BK816 hg); have n6_ := Aside0.mk (nG BK816 hg); clear BK816; clear HB; have BK816 := n0_; have HB := n1_; have BK817 := n2_; have GW817 := n3_; have GE817 := n4_; have NB816_817 := n5_; have NB817_816 := n6_; clear n0_ n1_ n2_ n3_ n4_ n5_ n6_; clear hb hbox hg; have hnb27 := NB816_817.out; have hnc27 := NB817_816.out; obtain ⟨hcz28_0, hcz28_1⟩ := cz2 BK816; obtain ⟨hfz28_0, hfz28_1⟩ := fz2 BK816) | ((with_reducible refine gate_callee (f := 124) rfl ?_); refine goesL_ (some 7) rfl rfl Try.func124 (by kernel_rfl) rfl #[.agg #[.slice A0_0 l0_0.length c0_0, .slice A0_1 l0_1.length c0_1]] rfl gA ?_; (with_reducible refine (impl_BaseOK.calls k _ _ l0_0 _ _ l0_1 false _ ?side1 ?side2 ?side3 ?side4 A3.out).mono ?_); (case side1 => exact cB HR0_0); (case side2 => exact HC0_0.out); (case side3 => exact cB HR0_1); (case side4 => exact HC0_1.out); rintro e w29 ⟨rfl, hb⟩; refine ⟨_, rfl, ?_⟩; have n0_ := Aside0.mk (kb BK816 hb); have n1_ := Aside0.mk (kb BK817 hb); have n2_ := Aside0.mk (below_step (w := w) bW hb); clear BK816; clear BK817; clear HB; have BK816 := n0_; have BK817 := n1_; have HB := n2_; clear n0_ n1_ n2_; (try clear hb); (try clear hb2); (try clear hk); (try clear hi)))
    go_ret2
    exact ⟨rE, bW⟩
end Go.Proofs.Ytcpljigliklgcaa.Q
end

section
namespace Go.Proofs.Ytcpljigliklgcaa.Q
open Go.RowKit Go.Proofs.YtcpljigliklgcaaW.PrintWords Go.Proofs.YtcpljigliklgcaaW.PrintLast Go.Proofs.YtcpljigliklgcaaW.PrintMore
attribute [local go_sem] max2_int min2_int max_two min_two max_three min_three max_four min_four   -- for this text's walks alone
set_option linter.unusedVariables false
set_option linter.unusedSimpArgs false
attribute [local go_sem] bin_leq bin_gtr bin_geq
def laws_FnExactGrowsFrom.j0 : Nat → Bool → List (S209) → List (S211) → List (S209) → List (S211) → List (S118) → List (S178) → List (S118) → List (S178) → Option (Bool)
 | 0, _, _, _, _, _, _, _, _, _ => none
 | k + 1, x47, x822000, x822001, x823000, x823001, x846000, x846001, x853000, x853001 => if x47 = true then (some false) else ((laws_toBase.f k x822000 x822001).bind fun bt855 => ((laws_eqBase.f k x846000 x846001 bt855.1 bt855.2).bind fun t861 => (if t861 = true then ((laws_toBase.f k x823000 x823001).bind fun bt862 => ((laws_eqBase.f k x853000 x853001 bt862.1 bt862.2).bind fun t868 => (if t868 = true then (some true) else (some false)))) else (some false))))
def laws_FnExactGrowsFrom.f (k : Nat) (l0_0 : List (S209)) (l0_1 : List (S211)) (l1_0 : List (S209)) (l1_1 : List (S211)) : Option (Bool) := (laws_szBase.f k l0_0 l0_1 1048576).bind fun t823 => (if t823 < 0 then (some true) else ((laws_szBase.f k l1_0 l1_1 t823).bind fun t824 => (if t824 < 0 then (some true) else ((laws_toBase.f k l0_0 l0_1).bind fun bt825 => ((laws_toBase.f k l1_0 l1_1).bind fun bt831 => ((spec_GrowsFrom.f k bt825.1 bt825.2 bt831.1 bt831.2).bind fun bt837 => ((laws_toBase.f k l0_0 l0_1).bind fun bt839 => ((laws_toBase.f k l1_0 l1_1).bind fun bt846 => ((impl_GrowsFrom.f k bt839.1 bt839.2 bt846.1 bt846.2).bind fun bt853 => (if (bt853.1 != bt837.1) = true then (laws_FnExactGrowsFrom.j0 k true l0_0 l0_1 l1_0 l1_1 bt839.1 bt839.2 bt846.1 bt846.2) else (laws_FnExactGrowsFrom.j0 k (bt853.2 != bt837.2) l0_0 l0_1 l1_0 l1_1 bt839.1 bt839.2 bt846.1 bt846.2)))))))))))
def laws_FnExactGrowsFrom.T8 : Bool × List (List Nat × List Nat) := (true, [([], []), ([0], [0]), ([], []), ([2, 1], [2]), ([1, 3, 3], [1, 3]), ([4], [4]), ([5], [5]), ([5], [5]), ([6, 4, 0, 1, 2, 3, 4, 5, 6], [6]), ([7, 8, 0, 1, 2, 3, 4, 5, 6, 7, 8], [7])])
def laws_FnExactGrowsFrom.B8 : List Nat := [0, 1, 0, 7, 15, 31, 63, 63, 127, 511]
theorem laws_FnExactGrowsFrom.tab8 : rtab .any (opsOf Try.f10 8) = laws_FnExactGrowsFrom.T8 := by kernel_rfl
theorem laws_FnExactGrowsFrom.bits8 : waitsOk laws_FnExactGrowsFrom.T8.2 laws_FnExactGrowsFrom.B8 = true := by kernel_rfl
set_option maxHeartbeats 8000000 in
set_option maxRecDepth 100000 in
theorem laws_FnExactGrowsFrom.calls (k : Nat) (A0_0 : Option Addr) (c0_0 : Nat) (l0_0 : List (S209)) (A0_1 : Option Addr) (c0_1 : Nat) (l0_1 : List (S211)) (A1_0 : Option Addr) (c1_0 : Nat) (l1_0 : List (S209)) (A1_1 : Option Addr) (c1_1 : Nat) (l1_1 : List (S211)) (w : World) (hr0_0 : Kd.C k209 w A0_0 l0_0.length l0_0) (hc0_0 : l0_0.length ≤ c0_0) (hr0_1 : Kd.C k211 w A0_1 l0_1.length l0_1) (hc0_1 : l0_1.length ≤ c0_1) (hr1_0 : Kd.C k209 w A1_0 l1_0.length l1_0) (hc1_0 : l1_0.length ≤ c1_0) (hr1_1 : Kd.C k211 w A1_1 l1_1.length l1_1) (hc1_1 : l1_1.length ≤ c1_1) (h : laws_FnExactGrowsFrom.f k l0_0 l0_1 l1_0 l1_1 = some true) :
  Calls Try.prog 10 #[.agg #[.slice A0_0 l0_0.length c0_0, .slice A0_1 l0_1.length c0_1], .agg #[.slice A1_0 l1_0.length c1_0, .slice A1_1 l1_1.length c1_1]] w fun e w' => e = .returned (.bool true) ∧ Below w.heap.size w w' := by
 have hu57 := Try.underlying57
 have hu66 := Try.underlying66
 have HR0_0 := Aside0.mk hr0_0
 have HC0_0 := Aside0.mk hc0_0
 clear hr0_0 hc0_0
 have HR0_1 := Aside0.mk hr0_1
 have HC0_1 := Aside0.mk hc0_1
 clear hr0_1 hc0_1
 have HR1_0 := Aside0.mk hr1_0
 have HC1_0 := Aside0.mk hc1_0
 clear hr1_0 hc1_0
 have HR1_1 := Aside0.mk hr1_1
 have HC1_1 := Aside0.mk hc1_1
 clear hr1_1 hc1_1
 have HB := Aside0.mk (Below.refl w.heap.size w)
 have H : ((laws_szBase.f k l0_0 l0_1 1048576).bind fun t823 => (if t823 < 0 then (some true) else ((laws_szBase.f k l1_0 l1_1 t823).bind fun t824 => (if t824 < 0 then (some true) else ((laws_toBase.f k l0_0 l0_1).bind fun bt825 => ((laws_toBase.f k l1_0 l1_1).bind fun bt831 => ((spec_GrowsFrom.f k bt825.1 bt825.2 bt831.1 bt831.2).bind fun bt837 => ((laws_toBase.f k l0_0 l0_1).bind fun bt839 => ((laws_toBase.f k l1_0 l1_1).bind fun bt846 => ((impl_GrowsFrom.f k bt839.1 bt839.2 bt846.1 bt846.2).bind fun bt853 => (if (bt853.1 != bt837.1) = true then (laws_FnExactGrowsFrom.j0 k true l0_0 l0_1 l1_0 l1_1 bt839.1 bt839.2 bt846.1 bt846.2) else (laws_FnExactGrowsFrom.j0 k (bt853.2 != bt837.2) l0_0 l0_1 l1_0 l1_1 bt839.1 bt839.2 bt846.1 bt846.2)))))))))))) = some true := h
 clear h
 replace H := Option.bind_eq_some_iff.mp H
 obtain ⟨t823, A30, H⟩ := H
 replace H : (if t823 < 0 then (some true) else ((laws_szBase.f k l1_0 l1_1 t823).bind fun t824 => (if t824 < 0 then (some true) else ((laws_toBase.f k l0_0 l0_1).bind fun bt825 => ((laws_toBase.f k l1_0 l1_1).bind fun bt831 => ((spec_GrowsFrom.f k bt825.1 bt825.2 bt831.1 bt831.2).bind fun bt837 => ((laws_toBase.f k l0_0 l0_1).bind fun bt839 => ((laws_toBase.f k l1_0 l1_1).bind fun bt846 => ((impl_GrowsFrom.f k bt839.1 bt839.2 bt846.1 bt846.2).bind fun bt853 => (if (bt853.1 != bt837.1) = true then (laws_FnExactGrowsFrom.j0 k true l0_0 l0_1 l1_0 l1_1 bt839.1 bt839.2 bt846.1 bt846.2) else (laws_FnExactGrowsFrom.j0 k (bt853.2 != bt837.2) l0_0 l0_1 l1_0 l1_1 bt839.1 bt839.2 bt846.1 bt846.2))))))))))) = some true := H
 have A3 := Aside0.mk A30
 clear A30
 by_cases c4 : t823 < 0
 ·rw [if_pos c4] at H
  have c4b0 : decide (t823 < 0) = true := decide_eq_true c4
  clear c4
  clear H
  go_enter Try.func10, Try.ntmps10
  go_wp2_with (first | ((with_reducible refine gate_dst (N := 2) rfl ?_); refine bE (N := 2) (cs := #[.slice A0_0 l0_0.length c0_0, .slice A0_1 l0_1.length c0_1]) (t := 57) ?_; intro gb821 hg w5 hbox hb; have n0_ := Aside0.mk (below_step (w := w) bW hb); have n1_ := Aside0.mk (hbox); have n2_ := Aside0.mk (gS (w := w) hg); have n3_ := n2_; clear HB; have HB := n0_; have BK821 := n1_; have GW821 := n2_; have GE821 := n3_; clear n0_ n1_ n2_ n3_; clear hb hbox hg) | ((with_reducible refine gate_dst (N := 3) rfl ?_); refine bE (N := 3) (cs := #[.slice A1_0 l1_0.length c1_0, .slice A1_1 l1_1.length c1_1]) (t := 57) ?_; intro gb822 hg w6 hbox hb; have n0_ := Aside0.mk (kb BK821 hb); have n1_ := Aside0.mk (below_step (w := w) bW hb); have n2_ := Aside0.mk (hbox); have n3_ := Aside0.mk (gS (w := w) hg); have n4_ := n3_; have n5_ := Aside0.mk (nL BK821 hg); have n6_ := Aside0.mk (nG BK821 hg); clear BK821; clear HB; have BK821 := n0_; have HB := n1_; have BK822 := n2_; have GW822 := n3_; have GE822 := n4_; have NB821_822 := n5_; have NB822_821 := n6_; clear n0_ n1_ n2_ n3_ n4_ n5_ n6_; clear hb hbox hg; have hnb7 := NB821_822.out; have hnc7 := NB822_821.out; obtain ⟨hcz8_0, hcz8_1⟩ := cz2 BK821; obtain ⟨hfz8_0, hfz8_1⟩ := fz2 BK821) | ((with_reducible refine gate_callee (f := 38) rfl ?_); refine goesL_ (some 14) rfl rfl Try.func38 (by kernel_rfl) rfl #[.agg #[.slice A0_0 l0_0.length c0_0, .slice A0_1 l0_1.length c0_1], .int .i64 1048576] rfl gA ?_; (with_reducible refine (laws_szBase.calls k _ _ l0_0 _ _ l0_1 1048576 t823 _ ?side1 ?side2 ?side3 ?side4 A3.out).mono ?_); (case side1 => exact cB HR0_0); (case side2 => exact HC0_0.out); (case side3 => exact cB HR0_1); (case side4 => exact HC0_1.out); rintro e w9 ⟨rfl, hb⟩; refine ⟨_, rfl, ?_⟩; have n0_ := Aside0.mk (kb BK821 hb); have n1_ := Aside0.mk (kb BK822 hb); have n2_ := Aside0.mk (below_step (w := w) bW hb); clear BK821; clear BK822; clear HB; have BK821 := n0_; have BK822 := n1_; have HB := n2_; clear n0_ n1_ n2_; (try clear hb); (try clear hb2); (try clear hk); (try clear hi)))
  go_ret
  exact ⟨rE, bW⟩
 ·rw [if_neg c4] at H
  have c4b0 : decide (t823 < 0) = false := decide_eq_false c4
  clear c4
  replace H := Option.bind_eq_some_iff.mp H
  obtain ⟨t824, A100, H⟩ := H
  replace H : (if t824 < 0 then (some true) else ((laws_toBase.f k l0_0 l0_1).bind fun bt825 => ((laws_toBase.f k l1_0 l1_1).bind fun bt831 => ((spec_GrowsFrom.f k bt825.1 bt825.2 bt831.1 bt831.2).bind fun bt837 => ((laws_toBase.f k l0_0 l0_1).bind fun bt839 => ((laws_toBase.f k l1_0 l1_1).bind fun bt846 => ((impl_GrowsFrom.f k bt839.1 bt839.2 bt846.1 bt846.2).bind fun bt853 => (if (bt853.1 != bt837.1) = true then (laws_FnExactGrowsFrom.j0 k true l0_0 l0_1 l1_0 l1_1 bt839.1 bt839.2 bt846.1 bt846.2) else (laws_FnExactGrowsFrom.j0 k (bt853.2 != bt837.2) l0_0 l0_1 l1_0 l1_1 bt839.1 bt839.2 bt846.1 bt846.2))))))))) = some true := H
  have A10 := Aside0.mk A100
  clear A100
  by_cases c11 : t824 < 0
  ·rw [if_pos c11] at H
   have c11b0 : decide (t824 < 0) = true := decide_eq_true c11
   clear c11
   clear H
   go_enter Try.func10, Try.ntmps10
   go_wp2_with (first | ((with_reducible refine gate_dst (N := 2) rfl ?_); refine bE (N := 2) (cs := #[.slice A0_0 l0_0.length c0_0, .slice A0_1 l0_1.length c0_1]) (t := 57) ?_; intro gb821 hg w12 hbox hb; have n0_ := Aside0.mk (below_step (w := w) bW hb); have n1_ := Aside0.mk (hbox); have n2_ := Aside0.mk (gS (w := w) hg); have n3_ := n2_; clear HB; have HB := n0_; have BK821 := n1_; have GW821 := n2_; have GE821 := n3_; clear n0_ n1_ n2_ n3_; clear hb hbox hg) | ((with_reducible refine gate_dst (N := 3) rfl ?_); refine bE (N := 3) (cs := #[.slice A1_0 l1_0.length c1_0, .slice A1_1 l1_1.length c1_1]) (t := 57) ?_; intro gb822 hg w13 hbox hb; have n0_ := Aside0.mk (kb BK821 hb); have n1_ := Aside0.mk (below_step (w := w) bW hb); have n2_ := Aside0.mk (hbox); have n3_ := Aside0.mk (gS (w := w) hg); have n4_ := n3_; have n5_ := Aside0.mk (nL BK821 hg); have n6_ := Aside0.mk (nG BK821 hg); clear BK821; clear HB; have BK821 := n0_; have HB := n1_; have BK822 := n2_; have GW822 := n3_; have GE822 := n4_; have NB821_822 := n5_; have NB822_821 := n6_; clear n0_ n1_ n2_ n3_ n4_ n5_ n6_; clear hb hbox hg; have hnb14 := NB821_822.out; have hnc14 := NB822_821.out; obtain ⟨hcz15_0, hcz15_1⟩ := cz2 BK821; obtain ⟨hfz15_0, hfz15_1⟩ := fz2 BK821) | ((with_reducible refine gate_callee (f := 38) rfl ?_); refine goesL_ (some 14) rfl rfl Try.func38 (by kernel_rfl) rfl #[.agg #[.slice A0_0 l0_0.length c0_0, .slice A0_1 l0_1.length c0_1], .int .i64 1048576] rfl gA ?_; (with_reducible refine (laws_szBase.calls k _ _ l0_0 _ _ l0_1 1048576 t823 _ ?side1 ?side2 ?side3 ?side4 A3.out).mono ?_); (case side1 => exact cB HR0_0); (case side2 => exact HC0_0.out); (case side3 => exact cB HR0_1); (case side4 => exact HC0_1.out); rintro e w16 ⟨rfl, hb⟩; refine ⟨_, rfl, ?_⟩; have n0_ := Aside0.mk (kb BK821 hb); have n1_ := Aside0.mk (kb BK822 hb); have n2_ := Aside0.mk (below_step (w := w) bW hb); clear BK821; clear BK822; clear HB; have BK821 := n0_; have BK822 := n1_; have HB := n2_; clear n0_ n1_ n2_; (try clear hb); (try clear hb2); (try clear hk); (try clear hi); obtain ⟨hcz17_0, hcz17_1⟩ := cz2 BK822; obtain ⟨hfz17_0, hfz17_1⟩ := fz2 BK822) | ((with_reducible refine gate_callee (f := 38) rfl ?_); refine goesL_ (some 19) rfl rfl Try.func38 (by kernel_rfl) rfl #[.agg #[.slice A1_0 l1_0.length c1_0, .slice A1_1 l1_1.length c1_1], .int .i64 t823] rfl gA ?_; (with_reducible refine (laws_szBase.calls k _ _ l1_0 _ _ l1_1 t823 t824 _ ?side1 ?side2 ?side3 ?side4 A10.out).mono ?_); (case side1 => exact cB HR1_0); (case side2 => exact HC1_0.out); (case side3 => exact cB HR1_1); (case side4 => exact HC1_1.out); rintro e w18 ⟨rfl, hb⟩; refine ⟨_, rfl, ?_⟩; have n0_ := Aside0.mk (kb BK821 hb); have n1_ := Aside0.mk (kb BK822 hb); have n2_ := Aside0.mk (below_step (w := w) bW hb); clear BK821; clear BK822; clear HB; have BK821 := n0_; have BK822 := n1_; have HB := n2_; clear n0_ n1_ n2_; (try clear hb); (try clear hb2); (try clear hk); (try clear hi)))
   go_ret
   exact ⟨rE, bW⟩
  ·rw [if_neg c11] at H
   have c11b0 : decide (t824 < 0) = false := decide_eq_false c11
   clear c11
   replace H := Option.bind_eq_some_iff.mp H
   obtain ⟨⟨t825, t828⟩, A190, H⟩ := H
   replace H : ((laws_toBase.f k l1_0 l1_1).bind fun bt831 => ((spec_GrowsFrom.f k t825 t828 bt831.1 bt831.2).bind fun bt837 => ((laws_toBase.f k l0_0 l0_1).bind fun bt839 => ((laws_toBase.f k l1_0 l1_1).bind fun bt846 => ((impl_GrowsFrom.f k bt839.1 bt839.2 bt846.1 bt846.2).bind fun bt853 => (if (bt853.1 != bt837.1) = true then (laws_FnExactGrowsFrom.j0 k true l0_0 l0_1 l1_0 l1_1 bt839.1 bt839.2 bt846.1 bt846.2) else (laws_FnExactGrowsFrom.j0 k (bt853.2 != bt837.2) l0_0 l0_1 l1_0 l1_1 bt839.1 bt839.2 bt846.1 bt846.2))))))) = some true := H
   have A19 := Aside0.mk A190
   clear A190
   replace H := Option.bind_eq_some_iff.mp H
   obtain ⟨⟨t831, t834⟩, A200, H⟩ := H
   replace H : ((spec_GrowsFrom.f k t825 t828 t831 t834).bind fun bt837 => ((laws_toBase.f k l0_0 l0_1).bind fun bt839 => ((laws_toBase.f k l1_0 l1_1).bind fun bt846 => ((impl_GrowsFrom.f k bt839.1 bt839.2 bt846.1 bt846.2).bind fun bt853 => (if (bt853.1 != bt837.1) = true then (laws_FnExactGrowsFrom.j0 k true l0_0 l0_1 l1_0 l1_1 bt839.1 bt839.2 bt846.1 bt846.2) else (laws_FnExactGrowsFrom.j0 k (bt853.2 != bt837.2) l0_0 l0_1 l1_0 l1_1 bt839.1 bt839.2 bt846.1 bt846.2)))))) = some true := H
   have A20 := Aside0.mk A200
   clear A200
   replace H := Option.bind_eq_some_iff.mp H
   obtain ⟨⟨t837, t838⟩, A210, H⟩ := H
   replace H : ((laws_toBase.f k l0_0 l0_1).bind fun bt839 => ((laws_toBase.f k l1_0 l1_1).bind fun bt846 => ((impl_GrowsFrom.f k bt839.1 bt839.2 bt846.1 bt846.2).bind fun bt853 => (if (bt853.1 != t837) = true then (laws_FnExactGrowsFrom.j0 k true l0_0 l0_1 l1_0 l1_1 bt839.1 bt839.2 bt846.1 bt846.2) else (laws_FnExactGrowsFrom.j0 k (bt853.2 != t838) l0_0 l0_1 l1_0 l1_1 bt839.1 bt839.2 bt846.1 bt846.2))))) = some true := H
   have A21 := Aside0.mk A210
   clear A210
   replace H := Option.bind_eq_some_iff.mp H
   obtain ⟨⟨t839, t842⟩, A220, H⟩ := H
   replace H : ((laws_toBase.f k l1_0 l1_1).bind fun bt846 => ((impl_GrowsFrom.f k t839 t842 bt846.1 bt846.2).bind fun bt853 => (if (bt853.1 != t837) = true then (laws_FnExactGrowsFrom.j0 k true l0_0 l0_1 l1_0 l1_1 t839 t842 bt846.1 bt846.2) else (laws_FnExactGrowsFrom.j0 k (bt853.2 != t838) l0_0 l0_1 l1_0 l1_1 t839 t842 bt846.1 bt846.2)))) = some true := H
   have A22 := Aside0.mk A220
   clear A220
   replace H := Option.bind_eq_some_iff.mp H
   obtain ⟨⟨t846, t849⟩, A230, H⟩ := H
   replace H : ((impl_GrowsFrom.f k t839 t842 t846 t849).bind fun bt853 => (if (bt853.1 != t837) = true then (laws_FnExactGrowsFrom.j0 k true l0_0 l0_1 l1_0 l1_1 t839 t842 t846 t849) else (laws_FnExactGrowsFrom.j0 k (bt853.2 != t838) l0_0 l0_1 l1_0 l1_1 t839 t842 t846 t849))) = some true := H
   have A23 := Aside0.mk A230
   clear A230
   replace H := Option.bind_eq_some_iff.mp H
   obtain ⟨⟨t853, t854⟩, A240, H⟩ := H
   replace H : (if (t853 != t837) = true then (laws_FnExactGrowsFrom.j0 k true l0_0 l0_1 l1_0 l1_1 t839 t842 t846 t849) else (laws_FnExactGrowsFrom.j0 k (t854 != t838) l0_0 l0_1 l1_0 l1_1 t839 t842 t846 t849)) = some true := H
   have A24 := Aside0.mk A240
   clear A240
   have HC25 := Aside0.mk H
   clear H
   go_enter Try.func10, Try.ntmps10
   try go_wp2_with (first | ((with_reducible refine gate_dst (N := 2) rfl ?_); refine bE (N := 2) (cs := #[.slice A0_0 l0_0.length c0_0, .slice A0_1 l0_1.length c0_1]) (t := 57) ?_; intro gb821 hg w26 hbox hb; have n0_ := Aside0.mk (below_step (w := w) bW hb); have n1_ := Aside0.mk (hbox); have n2_ := Aside0.mk (gS (w := w) hg); have n3_ := n2_; clear HB; have HB := n0_; have BK821 := n1_; have GW821 := n2_; have GE821 := n3_; clear n0_ n1_ n2_ n3_; clear hb hbox hg) | ((with_reducible refine gate_dst (N := 3) rfl ?_); refine bE (N := 3) (cs := #[.slice A1_0 l1_0.length c1_0, .slice A1_1 l1_1.length c1_1]) (t := 57) ?_; intro gb822 hg w27 hbox hb; have n0_ := Aside0.mk (kb BK821 hb); have n1_ := Aside0.mk (below_step (w := w) bW hb); have n2_ := Aside0.mk (hbox); have n3_ := Aside0.mk (gS (w := w) hg); have n4_ := n3_; have n5_ := Aside0.mk (nL BK821 hg); have n6_ := Aside0.mk (nG BK821 hg); clear BK821; clear HB; have BK821 := n0_; have HB := n1_; have BK822 := n2_; have GW822 := n3_; have GE822 := n4_; have NB821_822 := n5_; have NB822_821 := n6_; clear n0_ n1_ n2_ n3_ n4_ n5_ n6_; clear hb hbox hg; have hnb28 := NB821_822.out; have hnc28 := NB822_821.out; obtain ⟨hcz29_0, hcz29_1⟩ := cz2 BK821; obtain ⟨hfz29_0, hfz29_1⟩ := fz2 BK821) | ((with_reducible refine gate_callee (f := 38) rfl ?_); refine goesL_ (some 14) rfl rfl Try.func38 (by kernel_rfl) rfl #[.agg #[.slice A0_0 l0_0.length c0_0, .slice A0_1 l0_1.length c0_1], .int .i64 1048576] rfl gA ?_; (with_reducible refine (laws_szBase.calls k _ _ l0_0 _ _ l0_1 1048576 t823 _ ?side1 ?side2 ?side3 ?side4 A3.out).mono ?_); (case side1 => exact cB HR0_0); (case side2 => exact HC0_0.out); (case side3 => exact cB HR0_1); (case side4 => exact HC0_1.out); rintro e w30 ⟨rfl, hb⟩; refine ⟨_, rfl, ?_⟩; have n0_ := Aside0.mk (kb BK821 hb); have n1_ := Aside0.mk (kb BK822 hb); have n2_ := Aside0.mk (below_step (w := w) bW hb); clear BK821; clear BK822; clear HB; have BK821 := n0_; have BK822 := n1_; have HB := n2_; clear n0_ n1_ n2_; (try clear hb); (try clear hb2); (try clear hk); (try clear hi); obtain ⟨hcz31_0, hcz31_1⟩ := cz2 BK822; obtain ⟨hfz31_0, hfz31_1⟩ := fz2 BK822) | ((with_reducible refine gate_callee (f := 38) rfl ?_); refine goesL_ (some 19) rfl rfl Try.func38 (by kernel_rfl) rfl #[.agg #[.slice A1_0 l1_0.length c1_0, .slice A1_1 l1_1.length c1_1], .int .i64 t823] rfl gA ?_; (with_reducible refine (laws_szBase.calls k _ _ l1_0 _ _ l1_1 t823 t824 _ ?side1 ?side2 ?side3 ?side4 A10.out).mono ?_); (case side1 => exact cB HR1_0); (case side2 => exact HC1_0.out); (case side3 => exact cB HR1_1); (case side4 => exact HC1_1.out); rintro e w32 ⟨rfl, hb⟩; refine ⟨_, rfl, ?_⟩; have n0_ := Aside0.mk (kb BK821 hb); have n1_ := Aside0.mk (kb BK822 hb); have n2_ := Aside0.mk (below_step (w := w) bW hb); clear BK821; clear BK822; clear HB; have BK821 := n0_; have BK822 := n1_; have HB := n2_; clear n0_ n1_ n2_; (try clear hb); (try clear hb2); (try clear hk); (try clear hi)))
   have n0_ := Aside0.mk (blk_drew BK821.out)
   have n1_ := Aside0.mk (blk_drew BK822.out)
   have n2_ := Aside0.mk (below_drew1 HB.out)
   clear BK821
   clear BK822
   clear HB
   have BK821 := n0_
   have BK822 := n1_
   have HB := n2_
   clear n0_ n1_ n2_
   refine start_ (n := 10) (S := fun w' => w'.cell? ⟨gb821, 0, none⟩ = some (.slice A0_0 l0_0.length c0_0) ∧ w'.cell? ⟨gb821, 1, none⟩ = some (.slice A0_1 l0_1.length c0_1) ∧ w'.cell? ⟨gb822, 0, none⟩ = some (.slice A1_0 l1_0.length c1_0) ∧ w'.cell? ⟨gb822, 1, none⟩ = some (.slice A1_1 l1_1.length c1_1)) (ds := []) #[false, false, false, false, false, false, false, false, false, false] (by kernel_rfl) rfl rfl ⟨(blk_cell BK821.out 0).trans rfl, (blk_cell BK821.out 1).trans rfl, (blk_cell BK822.out 0).trans rfl, (blk_cell BK822.out 1).trans rfl⟩ (fun hHeld => ?_); refine with_tabW laws_FnExactGrowsFrom.tab8 laws_FnExactGrowsFrom.bits8 (fun HT_ HW_ => ?_)
   generalize w32.drew = w33 at BK821 BK822 HB hHeld ⊢
   refine take_ (i := 0) (N := some 23) (v := ?_) (a' := ?_) #[true, false, false, false, false, false, false, false, false, false] rfl rfl (take_ofW HT_.out HW_.out (by kernel_rfl)) (fun _ _ _ h => h) (Or.inl ⟨by rfl, ?_⟩) hHeld ?_ ?_; rotate_left; (focus rintro w' ⟨s0, s1, s2, s3⟩; go_simp; with_reducible rfl); rotate_left; (focus simp only [pt, i64_w, i32_w]; rfl)
   refine take_ (i := 2) (N := some 25) (v := ?_) (a' := ?_) #[true, false, true, false, false, false, false, false, false, false] rfl rfl (take_ofW HT_.out HW_.out (by kernel_rfl)) (fun _ _ _ h => h) (Or.inl ⟨by rfl, ?_⟩) hHeld ?_ ?_; rotate_left; (focus rintro w' ⟨s0, s1, s2, s3⟩; go_simp; with_reducible rfl); rotate_left; (focus simp only [pt, i64_w, i32_w]; rfl)
   refine one_ (i := 1) (N := some 24) #[true, true, true, false, false, false, false, false, false, false] rfl rfl (one_of HT_.out (by kernel_rfl)) (by decide) (fun K hK => ?_)
   refine goes_ Try.func41 (by kernel_rfl) rfl #[.agg #[.slice A0_0 l0_0.length c0_0, .slice A0_1 l0_1.length c0_1]] (by rfl) rfl rfl gA ?_
   with_reducible refine (laws_toBase.calls k _ _ l0_0 _ _ l0_1 t825 t828 _ ?side1 ?side2 ?side3 ?side4 A19.out).mono ?_
   (case side1 => exact cB HR0_0)
   (case side2 => exact HC0_0.out)
   (case side3 => exact cB HR0_1)
   (case side4 => exact HC0_1.out)
   rintro e w34 ⟨v826, v829, rfl, ho0, ho1, hb⟩
   refine ⟨_, rfl, ?_⟩
   have n0_ := Aside0.mk (Kd.S_lower ho0 (below_size (w := w) bW))
   have n1_ := Aside0.mk (Kd.R_lower ho1 (below_size (w := w) bW))
   have n2_ := Aside0.mk (kb BK821 hb)
   have n3_ := Aside0.mk (kb BK822 hb)
   have n4_ := Aside0.mk (below_step (w := w) bW hb)
   clear BK821
   clear BK822
   clear HB
   have HO827 := n0_
   have HO830 := n1_
   have BK821 := n2_
   have BK822 := n3_
   have HB := n4_
   clear n0_ n1_ n2_ n3_ n4_
   (try clear hb)
   (try clear hb2)
   (try clear hk)
   (try clear hi)
   (try clear ho0)
   (try clear ho1)
   refine hK.out _ _ ⟨(blk_cell BK821.out 0).trans rfl, (blk_cell BK821.out 1).trans rfl, (blk_cell BK822.out 0).trans rfl, (blk_cell BK822.out 1).trans rfl⟩ (fun hHeld => ?_)
   clear hK K
   refine norm_ (a' := ?_) ?_ ?_
   rotate_left
   ·show Act.put _ (some 24) _ = _
    simp only [Act.put, List.setIfInBounds_toArray, List.set_cons_zero, List.set_cons_succ, i64_w, i32_w]
    rfl
   refine one_ (i := 3) (N := some 26) #[true, true, true, true, false, false, false, false, false, false] rfl rfl (one_of HT_.out (by kernel_rfl)) (by decide) (fun K hK => ?_)
   refine goes_ Try.func41 (by kernel_rfl) rfl #[.agg #[.slice A1_0 l1_0.length c1_0, .slice A1_1 l1_1.length c1_1]] (by rfl) rfl rfl gA ?_
   with_reducible refine (laws_toBase.calls k _ _ l1_0 _ _ l1_1 t831 t834 _ ?side1 ?side2 ?side3 ?side4 A20.out).mono ?_
   (case side1 => exact cB HR1_0)
   (case side2 => exact HC1_0.out)
   (case side3 => exact cB HR1_1)
   (case side4 => exact HC1_1.out)
   rintro e w35 ⟨v832, v835, rfl, ho0, ho1, hb⟩
   refine ⟨_, rfl, ?_⟩
   have n0_ := Aside0.mk (Kd.S_elder' (pS HO827) (Kd.S_base ho0) hb)
   have n1_ := Aside0.mk (Kd.R_elder' (pR HO830) (Kd.R_base ho1) hb)
   have n2_ := Aside0.mk (Kd.S_lower (Kd.S_new' ho0 (Kd.S_lt (pS HO827))) (below_size (w := w) bW))
   have n3_ := Aside0.mk (Kd.R_lower (Kd.R_new' ho1 (Kd.R_lt (pR HO830))) (below_size (w := w) bW))
   have n4_ := Aside0.mk (kb BK821 hb)
   have n5_ := Aside0.mk (kb BK822 hb)
   have n6_ := Aside0.mk (below_step (w := w) bW hb)
   clear HO827
   clear HO830
   clear BK821
   clear BK822
   clear HB
   have HO827 := n0_
   have HO830 := n1_
   have HO833 := n2_
   have HO836 := n3_
   have BK821 := n4_
   have BK822 := n5_
   have HB := n6_
   clear n0_ n1_ n2_ n3_ n4_ n5_ n6_
   (try clear hb)
   (try clear hb2)
   (try clear hk)
   (try clear hi)
   (try clear ho0)
   (try clear ho1)
   obtain ⟨Ao36, co36, eo36⟩ := Kd.S_slice HO827.out
   (first | subst eo36 | (injection eo36 with f1_ f2_ f3_; have f4_ := f1_.symm; have f5_ := f3_.symm; clear f1_ f2_ f3_; subst f4_; subst f5_))
   obtain ⟨Ao37, co37, eo37⟩ := Kd.R_slice HO830.out
   (first | subst eo37 | (injection eo37 with f1_ f2_ f3_; have f4_ := f1_.symm; have f5_ := f3_.symm; clear f1_ f2_ f3_; subst f4_; subst f5_))
   obtain ⟨Ao38, co38, eo38⟩ := Kd.S_slice HO833.out
   (first | subst eo38 | (injection eo38 with f1_ f2_ f3_; have f4_ := f1_.symm; have f5_ := f3_.symm; clear f1_ f2_ f3_; subst f4_; subst f5_))
   obtain ⟨Ao39, co39, eo39⟩ := Kd.R_slice HO836.out
   (first | subst eo39 | (injection eo39 with f1_ f2_ f3_; have f4_ := f1_.symm; have f5_ := f3_.symm; clear f1_ f2_ f3_; subst f4_; subst f5_))
   refine hK.out _ _ ⟨(blk_cell BK821.out 0).trans rfl, (blk_cell BK821.out 1).trans rfl, (blk_cell BK822.out 0).trans rfl, (blk_cell BK822.out 1).trans rfl⟩ (fun hHeld => ?_)
   clear hK K
   refine norm_ (a' := ?_) ?_ ?_
   rotate_left
   ·show Act.put _ (some 26) _ = _
    simp only [Act.put, List.setIfInBounds_toArray, List.set_cons_zero, List.set_cons_succ, i64_w, i32_w]
    rfl
   refine one_ (i := 4) (N := some 27) #[true, true, true, true, true, false, false, false, false, false] rfl rfl (one_of HT_.out (by kernel_rfl)) (by decide) (fun K hK => ?_)
   refine goes_ Try.func48 (by kernel_rfl) rfl #[.agg #[.slice Ao36 t825.length co36, .slice Ao37 t828.length co37], .agg #[.slice Ao38 t831.length co38, .slice Ao39 t834.length co39]] (by rfl) rfl rfl gA ?_
   with_reducible refine (spec_GrowsFrom.calls k _ _ t825 _ _ t828 _ _ t831 _ _ t834 t837 t838 _ ?side1 ?side2 ?side3 ?side4 ?side5 ?side6 ?side7 ?side8 A21.out).mono ?_
   (case side1 => repeat (first | exact (Kd.S_reads' HO827.out).2.2 | (with_reducible refine Kd.C_alloc ?_ _) | (with_reducible refine Kd.C_drewN ?_ _) | (with_reducible refine Kd.C_drew ?_)))
   (case side2 => exact (Kd.S_reads' HO827.out).2.1)
   (case side3 => repeat (first | exact (Kd.R_reads' HO830.out).2.2 | (with_reducible refine Kd.C_alloc ?_ _) | (with_reducible refine Kd.C_drewN ?_ _) | (with_reducible refine Kd.C_drew ?_)))
   (case side4 => exact (Kd.R_reads' HO830.out).2.1)
   (case side5 => repeat (first | exact (Kd.S_reads' HO833.out).2.2 | (with_reducible refine Kd.C_alloc ?_ _) | (with_reducible refine Kd.C_drewN ?_ _) | (with_reducible refine Kd.C_drew ?_)))
   (case side6 => exact (Kd.S_reads' HO833.out).2.1)
   (case side7 => repeat (first | exact (Kd.R_reads' HO836.out).2.2 | (with_reducible refine Kd.C_alloc ?_ _) | (with_reducible refine Kd.C_drewN ?_ _) | (with_reducible refine Kd.C_drew ?_)))
   (case side8 => exact (Kd.R_reads' HO836.out).2.1)
   rintro e w40 ⟨rfl, hb⟩
   refine ⟨_, rfl, ?_⟩
   have n0_ := Aside0.mk (Kd.S_below (pS HO827) hb)
   have n1_ := Aside0.mk (Kd.R_below (pR HO830) hb)
   have n2_ := Aside0.mk (Kd.S_below (pS HO833) hb)
   have n3_ := Aside0.mk (Kd.R_below (pR HO836) hb)
   have n4_ := Aside0.mk (kb BK821 hb)
   have n5_ := Aside0.mk (kb BK822 hb)
   have n6_ := Aside0.mk (below_step (w := w) bW hb)
   clear HO827
   clear HO830
   clear HO833
   clear HO836
   clear BK821
   clear BK822
   clear HB
   have HO827 := n0_
   have HO830 := n1_
   have HO833 := n2_
   have HO836 := n3_
   have BK821 := n4_
   have BK822 := n5_
   have HB := n6_
   clear n0_ n1_ n2_ n3_ n4_ n5_ n6_
   (try clear hb)
   (try clear hb2)
   (try clear hk)
   (try clear hi)
   refine hK.out _ _ ⟨(blk_cell BK821.out 0).trans rfl, (blk_cell BK821.out 1).trans rfl, (blk_cell BK822.out 0).trans rfl, (blk_cell BK822.out 1).trans rfl⟩ (fun hHeld => ?_)
   clear hK K
   refine norm_ (a' := ?_) ?_ ?_
   rotate_left
   ·show Act.put _ (some 27) _ = _
    simp only [Act.put, List.setIfInBounds_toArray, List.set_cons_zero, List.set_cons_succ, i64_w, i32_w]
    rfl
   refine pure_ (i := 5) (N := some 22) (v := ?_) (a' := ?_) #[true, true, true, true, true, true, false, false, false, false] rfl rfl (any_of HT_.out (by kernel_rfl)) (fun _ _ _ h => h) (Or.inl ⟨by rfl, ?_⟩) ?_ ?_; rotate_left; (focus intro w'; go_simp; with_reducible rfl); rotate_left; (focus simp only [pt, i64_w, i32_w]; rfl)
   refine pure_ (i := 6) (N := some 28) (v := ?_) (a' := ?_) #[true, true, true, true, true, true, true, false, false, false] rfl rfl (any_of HT_.out (by kernel_rfl)) (fun _ _ _ h => h) (Or.inl ⟨by rfl, ?_⟩) ?_ ?_; rotate_left; (focus intro w'; go_simp; with_reducible rfl); rotate_left; (focus simp only [pt, i64_w, i32_w]; rfl)
   refine pure_ (i := 7) (N := some 29) (v := ?_) (a' := ?_) #[true, true, true, true, true, true, true, true, false, false] rfl rfl (any_of HT_.out (by kernel_rfl)) (fun _ _ _ h => h) (Or.inl ⟨by rfl, ?_⟩) ?_ ?_; rotate_left; (focus intro w'; go_simp; with_reducible rfl); rotate_left; (focus simp only [pt, i64_w, i32_w]; rfl)
   refine pure_ (i := 8) (N := some 6) (v := ?_) (a' := ?_) #[true, true, true, true, true, true, true, true, true, false] rfl rfl (any_of HT_.out (by kernel_rfl)) (fun _ _ _ h => h) (Or.inl ⟨by rfl, ?_⟩) ?_ ?_; rotate_left; (focus intro w'; go_simp; with_reducible rfl); rotate_left; (focus simp only [pt, i64_w, i32_w]; rfl)
   refine pure_ (i := 9) (N := some 7) (v := ?_) (a' := ?_) #[true, true, true, true, true, true, true, true, true, true] rfl rfl (any_of HT_.out (by kernel_rfl)) (fun _ _ _ h => h) (Or.inl ⟨by rfl, ?_⟩) ?_ ?_; rotate_left; (focus intro w'; go_simp; with_reducible rfl); rotate_left; (focus simp only [pt, i64_w, i32_w]; rfl)
   refine done_ (done_of HT_.out (by kernel_rfl)) ?_
   have hcz41_0 : w40.cell? ⟨gb821, 0, none⟩ = some (.slice A0_0 l0_0.length c0_0) := (blk_cell BK821.out 0).trans rfl
   have hcz41_1 : w40.cell? ⟨gb821, 1, none⟩ = some (.slice A0_1 l0_1.length c0_1) := (blk_cell BK821.out 1).trans rfl
   have hfz41_0 := blk_frozen BK821.out 0
   have hfz41_1 := blk_frozen BK821.out 1
   go_upto_region 12 with (first | ((with_reducible refine gate_callee (f := 41) rfl ?_); refine goesL_ (some 31) rfl rfl Try.func41 (by kernel_rfl) rfl #[.agg #[.slice A0_0 l0_0.length c0_0, .slice A0_1 l0_1.length c0_1]] rfl gA ?_; (with_reducible refine (laws_toBase.calls k _ _ l0_0 _ _ l0_1 t839 t842 _ ?side1 ?side2 ?side3 ?side4 A22.out).mono ?_); (case side1 => exact cB HR0_0); (case side2 => exact HC0_0.out); (case side3 => exact cB HR0_1); (case side4 => exact HC0_1.out); rintro e w42 ⟨v840, v843, rfl, ho0, ho1, hb⟩; refine ⟨_, rfl, ?_⟩; have n0_ := Aside0.mk (Kd.S_elder' (pS HO827) (Kd.S_base ho0) hb); have n1_ := Aside0.mk (Kd.R_elder' (pR HO830) (Kd.R_base ho1) hb); have n2_ := Aside0.mk (Kd.S_elder' (pS HO833) (Kd.S_base ho0) hb); have n3_ := Aside0.mk (Kd.R_elder' (pR HO836) (Kd.R_base ho1) hb); have n4_ := Aside0.mk (Kd.S_lower (Kd.S_new' (Kd.S_new' ho0 (Kd.S_lt (pS HO827))) (Kd.S_lt (pS HO833))) (below_size (w := w) bW)); have n5_ := Aside0.mk (Kd.R_lower (Kd.R_new' (Kd.R_new' ho1 (Kd.R_lt (pR HO830))) (Kd.R_lt (pR HO836))) (below_size (w := w) bW)); have n6_ := Aside0.mk (kb BK821 hb); have n7_ := Aside0.mk (kb BK822 hb); have n8_ := Aside0.mk (below_step (w := w) bW hb); clear HO827; clear HO830; clear HO833; clear HO836; clear BK821; clear BK822; clear HB; have HO827 := n0_; have HO830 := n1_; have HO833 := n2_; have HO836 := n3_; have HO841 := n4_; have HO844 := n5_; have BK821 := n6_; have BK822 := n7_; have HB := n8_; clear n0_ n1_ n2_ n3_ n4_ n5_ n6_ n7_ n8_; (try clear hb); (try clear hb2); (try clear hk); (try clear hi); (try clear ho0); (try clear ho1)) | ((with_reducible refine gate_dst (N := 8) rfl ?_); refine bE (N := 8) (cs := #[.slice none 0 0, .slice none 0 0]) (t := 66) ?_; intro gb845 hg w43 hbox hb; have n0_ := Aside0.mk (Kd.S_below (pS HO827) hb); have n1_ := Aside0.mk (Kd.R_below (pR HO830) hb); have n2_ := Aside0.mk (Kd.S_below (pS HO833) hb); have n3_ := Aside0.mk (Kd.R_below (pR HO836) hb); have n4_ := Aside0.mk (Kd.S_below (pS HO841) hb); have n5_ := Aside0.mk (Kd.R_below (pR HO844) hb); have n6_ := Aside0.mk (kb BK821 hb); have n7_ := Aside0.mk (kb BK822 hb); have n8_ := Aside0.mk (below_step (w := w) bW hb); have n9_ := Aside0.mk (hbox); have n10_ := Aside0.mk (gS (w := w) hg); have n11_ := n10_; have n12_ := Aside0.mk (nL BK821 hg); have n13_ := Aside0.mk (nG BK821 hg); have n14_ := Aside0.mk (nL BK822 hg); have n15_ := Aside0.mk (nG BK822 hg); clear HO827; clear HO830; clear HO833; clear HO836; clear HO841; clear HO844; clear BK821; clear BK822; clear HB; have HO827 := n0_; have HO830 := n1_; have HO833 := n2_; have HO836 := n3_; have HO841 := n4_; have HO844 := n5_; have BK821 := n6_; have BK822 := n7_; have HB := n8_; have BK845 := n9_; have GW845 := n10_; have GE845 := n11_; have NB821_845 := n12_; have NB845_821 := n13_; have NB822_845 := n14_; have NB845_822 := n15_; clear n0_ n1_ n2_ n3_ n4_ n5_ n6_ n7_ n8_ n9_ n10_ n11_ n12_ n13_ n14_ n15_; clear hb hbox hg; obtain ⟨Ao44, co44, eo44⟩ := Kd.S_slice HO841.out; subst eo44; have hnb45 := NB845_821.out; have hnc45 := NB821_845.out; have hnb46 := NB845_822.out; have hnc46 := NB822_845.out; obtain ⟨hcz47_0, hcz47_1⟩ := cz2 BK845; obtain ⟨hfz47_0, hfz47_1⟩ := fz2 BK845; obtain ⟨Ao48, co48, eo48⟩ := Kd.R_slice HO844.out; subst eo48; obtain ⟨hcz49_0, hcz49_1⟩ := cz2 BK822; obtain ⟨hfz49_0, hfz49_1⟩ := fz2 BK822) | ((with_reducible refine gate_callee (f := 41) rfl ?_); refine goesL_ (some 33) rfl rfl Try.func41 (by kernel_rfl) rfl #[.agg #[.slice A1_0 l1_0.length c1_0, .slice A1_1 l1_1.length c1_1]] rfl gA ?_; (with_reducible refine (laws_toBase.calls k _ _ l1_0 _ _ l1_1 t846 t849 _ ?side1 ?side2 ?side3 ?side4 A23.out).mono ?_); (case side1 => exact Kd.C_below HR1_0.out bW); (case side2 => exact HC1_0.out); (case side3 => exact Kd.C_below HR1_1.out bW); (case side4 => exact HC1_1.out); rintro e w50 ⟨v847, v850, rfl, ho0, ho1, hb⟩; refine ⟨_, rfl, ?_⟩; have n0_ := Aside0.mk (Kd.S_elder' (by (with_reducible repeat (first | apply Kd.S_alloc | apply Kd.S_drewN | apply Kd.S_drew)); exact (Kd.S_mono (Kd.S_far (p := ⟨gb845, 1, none⟩) (Kd.S_far (p := ⟨gb845, 0, none⟩) (Kd.S_types HO827.out BK845.out (by decide)) (fun _ hk => hk.2) (.slice Ao44 t839.length co44)) (fun _ hk => hk.2) (.slice Ao48 t842.length co48)) (fun _ h_ => h_.1))) (Kd.S_base ho0) hb); have n1_ := Aside0.mk (Kd.R_elder' (by (with_reducible repeat (first | apply Kd.R_alloc | apply Kd.R_drewN | apply Kd.R_drew)); exact (Kd.R_mono (Kd.R_far (p := ⟨gb845, 1, none⟩) (Kd.R_far (p := ⟨gb845, 0, none⟩) (Kd.R_types HO830.out BK845.out (by decide)) (fun _ hk => hk.2) (.slice Ao44 t839.length co44)) (fun _ hk => hk.2) (.slice Ao48 t842.length co48)) (fun _ h_ => h_.1))) (Kd.R_base ho1) hb); have n2_ := Aside0.mk (Kd.S_elder' (by (with_reducible repeat (first | apply Kd.S_alloc | apply Kd.S_drewN | apply Kd.S_drew)); exact (Kd.S_mono (Kd.S_far (p := ⟨gb845, 1, none⟩) (Kd.S_far (p := ⟨gb845, 0, none⟩) (Kd.S_types HO833.out BK845.out (by decide)) (fun _ hk => hk.2) (.slice Ao44 t839.length co44)) (fun _ hk => hk.2) (.slice Ao48 t842.length co48)) (fun _ h_ => h_.1))) (Kd.S_base ho0) hb); have n3_ := Aside0.mk (Kd.R_elder' (by (with_reducible repeat (first | apply Kd.R_alloc | apply Kd.R_drewN | apply Kd.R_drew)); exact (Kd.R_mono (Kd.R_far (p := ⟨gb845, 1, none⟩) (Kd.R_far (p := ⟨gb845, 0, none⟩) (Kd.R_types HO836.out BK845.out (by decide)) (fun _ hk => hk.2) (.slice Ao44 t839.length co44)) (fun _ hk => hk.2) (.slice Ao48 t842.length co48)) (fun _ h_ => h_.1))) (Kd.R_base ho1) hb); have n4_ := Aside0.mk (Kd.S_elder' (by (with_reducible repeat (first | apply Kd.S_alloc | apply Kd.S_drewN | apply Kd.S_drew)); exact (Kd.S_mono (Kd.S_far (p := ⟨gb845, 1, none⟩) (Kd.S_far (p := ⟨gb845, 0, none⟩) (Kd.S_types HO841.out BK845.out (by decide)) (fun _ hk => hk.2) (.slice Ao44 t839.length co44)) (fun _ hk => hk.2) (.slice Ao48 t842.length co48)) (fun _ h_ => h_.1))) (Kd.S_base ho0) hb); have n5_ := Aside0.mk (Kd.R_elder' (by (with_reducible repeat (first | apply Kd.R_alloc | apply Kd.R_drewN | apply Kd.R_drew)); exact (Kd.R_mono (Kd.R_far (p := ⟨gb845, 1, none⟩) (Kd.R_far (p := ⟨gb845, 0, none⟩) (Kd.R_types HO844.out BK845.out (by decide)) (fun _ hk => hk.2) (.slice Ao44 t839.length co44)) (fun _ hk => hk.2) (.slice Ao48 t842.length co48)) (fun _ h_ => h_.1))) (Kd.R_base ho1) hb); have n6_ := Aside0.mk (Kd.S_lower (Kd.S_new' (Kd.S_new' (Kd.S_new' ho0 (Kd.S_lt (by (with_reducible repeat (first | apply Kd.S_alloc | apply Kd.S_drewN | apply Kd.S_drew)); exact (Kd.S_mono (Kd.S_far (p := ⟨gb845, 1, none⟩) (Kd.S_far (p := ⟨gb845, 0, none⟩) (Kd.S_types HO827.out BK845.out (by decide)) (fun _ hk => hk.2) (.slice Ao44 t839.length co44)) (fun _ hk => hk.2) (.slice Ao48 t842.length co48)) (fun _ h_ => h_.1))))) (Kd.S_lt (by (with_reducible repeat (first | apply Kd.S_alloc | apply Kd.S_drewN | apply Kd.S_drew)); exact (Kd.S_mono (Kd.S_far (p := ⟨gb845, 1, none⟩) (Kd.S_far (p := ⟨gb845, 0, none⟩) (Kd.S_types HO833.out BK845.out (by decide)) (fun _ hk => hk.2) (.slice Ao44 t839.length co44)) (fun _ hk => hk.2) (.slice Ao48 t842.length co48)) (fun _ h_ => h_.1))))) (Kd.S_lt (by (with_reducible repeat (first | apply Kd.S_alloc | apply Kd.S_drewN | apply Kd.S_drew)); exact (Kd.S_mono (Kd.S_far (p := ⟨gb845, 1, none⟩) (Kd.S_far (p := ⟨gb845, 0, none⟩) (Kd.S_types HO841.out BK845.out (by decide)) (fun _ hk => hk.2) (.slice Ao44 t839.length co44)) (fun _ hk => hk.2) (.slice Ao48 t842.length co48)) (fun _ h_ => h_.1))))) (below_size (w := w) bW)); have n7_ := Aside0.mk (Kd.R_lower (Kd.R_new' (Kd.R_new' (Kd.R_new' ho1 (Kd.R_lt (by (with_reducible repeat (first | apply Kd.R_alloc | apply Kd.R_drewN | apply Kd.R_drew)); exact (Kd.R_mono (Kd.R_far (p := ⟨gb845, 1, none⟩) (Kd.R_far (p := ⟨gb845, 0, none⟩) (Kd.R_types HO830.out BK845.out (by decide)) (fun _ hk => hk.2) (.slice Ao44 t839.length co44)) (fun _ hk => hk.2) (.slice Ao48 t842.length co48)) (fun _ h_ => h_.1))))) (Kd.R_lt (by (with_reducible repeat (first | apply Kd.R_alloc | apply Kd.R_drewN | apply Kd.R_drew)); exact (Kd.R_mono (Kd.R_far (p := ⟨gb845, 1, none⟩) (Kd.R_far (p := ⟨gb845, 0, none⟩) (Kd.R_types HO836.out BK845.out (by decide)) (fun _ hk => hk.2) (.slice Ao44 t839.length co44)) (fun _ hk => hk.2) (.slice Ao48 t842.length co48)) (fun _ h_ => h_.1))))) (Kd.R_lt (by (with_reducible repeat (first | apply Kd.R_alloc | apply Kd.R_drewN | apply Kd.R_drew)); exact (Kd.R_mono (Kd.R_far (p := ⟨gb845, 1, none⟩) (Kd.R_far (p := ⟨gb845, 0, none⟩) (Kd.R_types HO844.out BK845.out (by decide)) (fun _ hk => hk.2) (.slice Ao44 t839.length co44)) (fun _ hk => hk.2) (.slice Ao48 t842.length co48)) (fun _ h_ => h_.1))))) (below_size (w := w) bW)); have n8_ := Aside0.mk (kbF BK821 hb); have n9_ := Aside0.mk (kbF BK822 hb); have n10_ := Aside0.mk (blk_below (g := gb845) (o := .cells #[.slice Ao44 t839.length co44, .slice Ao48 t842.length co48] 66 (0, 0)) (by (with_reducible repeat (first | refine blk_drewN ?_ _ | refine blk_drew ?_ | refine blk_alloc ?_ _)); refine blk_put (cs := #[.slice Ao44 t839.length co44, .slice none 0 0]) ?_ 1 _ rfl; (with_reducible repeat (first | refine blk_drewN ?_ _ | refine blk_drew ?_ | refine blk_alloc ?_ _)); refine blk_put (cs := #[.slice none 0 0, .slice none 0 0]) ?_ 0 _ rfl; (with_reducible repeat (first | refine blk_drewN ?_ _ | refine blk_drew ?_ | refine blk_alloc ?_ _)); exact BK845.out) hb); have n11_ := Aside0.mk (below_step (w := w) bW hb); clear HO827; clear HO830; clear HO833; clear HO836; clear HO841; clear HO844; clear BK821; clear BK822; clear BK845; clear HB; have HO827 := n0_; have HO830 := n1_; have HO833 := n2_; have HO836 := n3_; have HO841 := n4_; have HO844 := n5_; have HO848 := n6_; have HO851 := n7_; have BK821 := n8_; have BK822 := n9_; have BK845 := n10_; have HB := n11_; clear n0_ n1_ n2_ n3_ n4_ n5_ n6_ n7_ n8_ n9_ n10_ n11_; (try clear hb); (try clear hb2); (try clear hk); (try clear hi); (try clear ho0); (try clear ho1)) | ((with_reducible refine gate_dst (N := 9) rfl ?_); refine bE (N := 9) (cs := #[.slice none 0 0, .slice none 0 0]) (t := 66) ?_; intro gb852 hg w51 hbox hb; have n0_ := Aside0.mk (Kd.S_below (pS HO827) hb); have n1_ := Aside0.mk (Kd.R_below (pR HO830) hb); have n2_ := Aside0.mk (Kd.S_below (pS HO833) hb); have n3_ := Aside0.mk (Kd.R_below (pR HO836) hb); have n4_ := Aside0.mk (Kd.S_below (pS HO841) hb); have n5_ := Aside0.mk (Kd.R_below (pR HO844) hb); have n6_ := Aside0.mk (Kd.S_below (pS HO848) hb); have n7_ := Aside0.mk (Kd.R_below (pR HO851) hb); have n8_ := Aside0.mk (kb BK821 hb); have n9_ := Aside0.mk (kb BK822 hb); have n10_ := Aside0.mk (kb BK845 hb); have n11_ := Aside0.mk (below_step (w := w) bW hb); have n12_ := Aside0.mk (hbox); have n13_ := Aside0.mk (gS (w := w) hg); have n14_ := n13_; have n15_ := Aside0.mk (nL BK821 hg); have n16_ := Aside0.mk (nG BK821 hg); have n17_ := Aside0.mk (nL BK822 hg); have n18_ := Aside0.mk (nG BK822 hg); have n19_ := Aside0.mk (nL BK845 hg); have n20_ := Aside0.mk (nG BK845 hg); clear HO827; clear HO830; clear HO833; clear HO836; clear HO841; clear HO844; clear HO848; clear HO851; clear BK821; clear BK822; clear BK845; clear HB; have HO827 := n0_; have HO830 := n1_; have HO833 := n2_; have HO836 := n3_; have HO841 := n4_; have HO844 := n5_; have HO848 := n6_; have HO851 := n7_; have BK821 := n8_; have BK822 := n9_; have BK845 := n10_; have HB := n11_; have BK852 := n12_; have GW852 := n13_; have GE852 := n14_; have NB821_852 := n15_; have NB852_821 := n16_; have NB822_852 := n17_; have NB852_822 := n18_; have NB845_852 := n19_; have NB852_845 := n20_; clear n0_ n1_ n2_ n3_ n4_ n5_ n6_ n7_ n8_ n9_ n10_ n11_ n12_ n13_ n14_ n15_ n16_ n17_ n18_ n19_ n20_; clear hb hbox hg; obtain ⟨Ao52, co52, eo52⟩ := Kd.S_slice HO848.out; subst eo52; have hnb53 := NB852_821.out; have hnc53 := NB821_852.out; have hnb54 := NB852_822.out; have hnc54 := NB822_852.out; have hnb55 := NB852_845.out; have hnc55 := NB845_852.out; obtain ⟨hcz56_0, hcz56_1⟩ := cz2 BK852; obtain ⟨hfz56_0, hfz56_1⟩ := fz2 BK852; obtain ⟨Ao57, co57, eo57⟩ := Kd.R_slice HO851.out; subst eo57; obtain ⟨hcz58_0, hcz58_1⟩ := cz2 BK845; obtain ⟨hfz58_0, hfz58_1⟩ := fz2 BK845) | ((with_reducible refine gate_callee (f := 49) rfl ?_); refine goesL_ (some 37) rfl rfl Try.func49 (by kernel_rfl) rfl #[.agg #[.slice Ao44 t839.length co44, .slice Ao48 t842.length co48], .agg #[.slice Ao52 t846.length co52, .slice Ao57 t849.length co57]] rfl gA ?_; (with_reducible refine (impl_GrowsFrom.calls k _ _ t839 _ _ t842 _ _ t846 _ _ t849 t853 t854 _ ?side1 ?side2 ?side3 ?side4 ?side5 ?side6 ?side7 ?side8 A24.out).mono ?_); (case side1 => refine (Kd.S_reads' (e := 118) (base := w.heap.size) (ok := fun k_ => (((True ∧ some k_ ≠ (.slice Ao36 t825.length co36 : Value).ownBlock) ∧ some k_ ≠ (.slice Ao38 t831.length co38 : Value).ownBlock) ∧ some k_ ≠ (.slice Ao52 t846.length co52 : Value).ownBlock)) (n := t839.length) (c := co44) ?_).2.2; exact (by (with_reducible repeat (first | apply Kd.S_alloc | apply Kd.S_drewN | apply Kd.S_drew)); exact (Kd.S_mono (Kd.S_far (p := ⟨gb852, 1, none⟩) (Kd.S_far (p := ⟨gb852, 0, none⟩) (Kd.S_types HO841.out BK852.out (by decide)) (fun _ hk => hk.2) (.slice Ao52 t846.length co52)) (fun _ hk => hk.2) (.slice Ao57 t849.length co57)) (fun _ h_ => h_.1)))); (case side2 => exact (Kd.S_reads' HO841.out).2.1); (case side3 => refine (Kd.R_reads' (e := 178) (base := w.heap.size) (ok := fun k_ => (((True ∧ some k_ ≠ (.slice Ao37 t828.length co37 : Value).ownBlock) ∧ some k_ ≠ (.slice Ao39 t834.length co39 : Value).ownBlock) ∧ some k_ ≠ (.slice Ao57 t849.length co57 : Value).ownBlock)) (n := t842.length) (c := co48) ?_).2.2; exact (by (with_reducible repeat (first | apply Kd.R_alloc | apply Kd.R_drewN | apply Kd.R_drew)); exact (Kd.R_mono (Kd.R_far (p := ⟨gb852, 1, none⟩) (Kd.R_far (p := ⟨gb852, 0, none⟩) (Kd.R_types HO844.out BK852.out (by decide)) (fun _ hk => hk.2) (.slice Ao52 t846.length co52)) (fun _ hk => hk.2) (.slice Ao57 t849.length co57)) (fun _ h_ => h_.1)))); (case side4 => exact (Kd.R_reads' HO844.out).2.1); (case side5 => refine (Kd.S_reads' (e := 118) (base := w.heap.size) (ok := fun k_ => (((True ∧ some k_ ≠ (.slice Ao36 t825.length co36 : Value).ownBlock) ∧ some k_ ≠ (.slice Ao38 t831.length co38 : Value).ownBlock) ∧ some k_ ≠ (.slice Ao44 t839.length co44 : Value).ownBlock)) (n := t846.length) (c := co52) ?_).2.2; exact (by (with_reducible repeat (first | apply Kd.S_alloc | apply Kd.S_drewN | apply Kd.S_drew)); exact (Kd.S_mono (Kd.S_far (p := ⟨gb852, 1, none⟩) (Kd.S_far (p := ⟨gb852, 0, none⟩) (Kd.S_types HO848.out BK852.out (by decide)) (fun _ hk => hk.2) (.slice Ao52 t846.length co52)) (fun _ hk => hk.2) (.slice Ao57 t849.length co57)) (fun _ h_ => h_.1)))); (case side6 => exact (Kd.S_reads' HO848.out).2.1); (case side7 => refine (Kd.R_reads' (e := 178) (base := w.heap.size) (ok := fun k_ => (((True ∧ some k_ ≠ (.slice Ao37 t828.length co37 : Value).ownBlock) ∧ some k_ ≠ (.slice Ao39 t834.length co39 : Value).ownBlock) ∧ some k_ ≠ (.slice Ao48 t842.length co48 : Value).ownBlock)) (n := t849.length) (c := co57) ?_).2.2; exact (by (with_reducible repeat (first | apply Kd.R_alloc | apply Kd.R_drewN | apply Kd.R_drew)); exact (Kd.R_mono (Kd.R_far (p := ⟨gb852, 1, none⟩) (Kd.R_far (p := ⟨gb852, 0, none⟩) (Kd.R_types HO851.out BK852.out (by decide)) (fun _ hk => hk.2) (.slice Ao52 t846.length co52)) (fun _ hk => hk.2) (.slice Ao57 t849.length co57)) (fun _ h_ => h_.1)))); (case side8 => exact (Kd.R_reads' HO851.out).2.1); rintro e w59 ⟨rfl, hb⟩; refine ⟨_, rfl, ?_⟩; have n0_ := Aside0.mk (Kd.S_below (by (with_reducible repeat (first | apply Kd.S_alloc | apply Kd.S_drewN | apply Kd.S_drew)); exact (Kd.S_mono (Kd.S_far (p := ⟨gb852, 1, none⟩) (Kd.S_far (p := ⟨gb852, 0, none⟩) (Kd.S_types HO827.out BK852.out (by decide)) (fun _ hk => hk.2) (.slice Ao52 t846.length co52)) (fun _ hk => hk.2) (.slice Ao57 t849.length co57)) (fun _ h_ => h_.1))) hb); have n1_ := Aside0.mk (Kd.R_below (by (with_reducible repeat (first | apply Kd.R_alloc | apply Kd.R_drewN | apply Kd.R_drew)); exact (Kd.R_mono (Kd.R_far (p := ⟨gb852, 1, none⟩) (Kd.R_far (p := ⟨gb852, 0, none⟩) (Kd.R_types HO830.out BK852.out (by decide)) (fun _ hk => hk.2) (.slice Ao52 t846.length co52)) (fun _ hk => hk.2) (.slice Ao57 t849.length co57)) (fun _ h_ => h_.1))) hb); have n2_ := Aside0.mk (Kd.S_below (by (with_reducible repeat (first | apply Kd.S_alloc | apply Kd.S_drewN | apply Kd.S_drew)); exact (Kd.S_mono (Kd.S_far (p := ⟨gb852, 1, none⟩) (Kd.S_far (p := ⟨gb852, 0, none⟩) (Kd.S_types HO833.out BK852.out (by decide)) (fun _ hk => hk.2) (.slice Ao52 t846.length co52)) (fun _ hk => hk.2) (.slice Ao57 t849.length co57)) (fun _ h_ => h_.1))) hb); have n3_ := Aside0.mk (Kd.R_below (by (with_reducible repeat (first | apply Kd.R_alloc | apply Kd.R_drewN | apply Kd.R_drew)); exact (Kd.R_mono (Kd.R_far (p := ⟨gb852, 1, none⟩) (Kd.R_far (p := ⟨gb852, 0, none⟩) (Kd.R_types HO836.out BK852.out (by decide)) (fun _ hk => hk.2) (.slice Ao52 t846.length co52)) (fun _ hk => hk.2) (.slice Ao57 t849.length co57)) (fun _ h_ => h_.1))) hb); have n4_ := Aside0.mk (Kd.S_below (by (with_reducible repeat (first | apply Kd.S_alloc | apply Kd.S_drewN | apply Kd.S_drew)); exact (Kd.S_mono (Kd.S_far (p := ⟨gb852, 1, none⟩) (Kd.S_far (p := ⟨gb852, 0, none⟩) (Kd.S_types HO841.out BK852.out (by decide)) (fun _ hk => hk.2) (.slice Ao52 t846.length co52)) (fun _ hk => hk.2) (.slice Ao57 t849.length co57)) (fun _ h_ => h_.1))) hb); have n5_ := Aside0.mk (Kd.R_below (by (with_reducible repeat (first | apply Kd.R_alloc | apply Kd.R_drewN | apply Kd.R_drew)); exact (Kd.R_mono (Kd.R_far (p := ⟨gb852, 1, none⟩) (Kd.R_far (p := ⟨gb852, 0, none⟩) (Kd.R_types HO844.out BK852.out (by decide)) (fun _ hk => hk.2) (.slice Ao52 t846.length co52)) (fun _ hk => hk.2) (.slice Ao57 t849.length co57)) (fun _ h_ => h_.1))) hb); have n6_ := Aside0.mk (Kd.S_below (by (with_reducible repeat (first | apply Kd.S_alloc | apply Kd.S_drewN | apply Kd.S_drew)); exact (Kd.S_mono (Kd.S_far (p := ⟨gb852, 1, none⟩) (Kd.S_far (p := ⟨gb852, 0, none⟩) (Kd.S_types HO848.out BK852.out (by decide)) (fun _ hk => hk.2) (.slice Ao52 t846.length co52)) (fun _ hk => hk.2) (.slice Ao57 t849.length co57)) (fun _ h_ => h_.1))) hb); have n7_ := Aside0.mk (Kd.R_below (by (with_reducible repeat (first | apply Kd.R_alloc | apply Kd.R_drewN | apply Kd.R_drew)); exact (Kd.R_mono (Kd.R_far (p := ⟨gb852, 1, none⟩) (Kd.R_far (p := ⟨gb852, 0, none⟩) (Kd.R_types HO851.out BK852.out (by decide)) (fun _ hk => hk.2) (.slice Ao52 t846.length co52)) (fun _ hk => hk.2) (.slice Ao57 t849.length co57)) (fun _ h_ => h_.1))) hb); have n8_ := Aside0.mk (kbF BK821 hb); have n9_ := Aside0.mk (kbF BK822 hb); have n10_ := Aside0.mk (kbF BK845 hb); have n11_ := Aside0.mk (blk_below (g := gb852) (o := .cells #[.slice Ao52 t846.length co52, .slice Ao57 t849.length co57] 66 (0, 0)) (by (with_reducible repeat (first | refine blk_drewN ?_ _ | refine blk_drew ?_ | refine blk_alloc ?_ _)); refine blk_put (cs := #[.slice Ao52 t846.length co52, .slice none 0 0]) ?_ 1 _ rfl; (with_reducible repeat (first | refine blk_drewN ?_ _ | refine blk_drew ?_ | refine blk_alloc ?_ _)); refine blk_put (cs := #[.slice none 0 0, .slice none 0 0]) ?_ 0 _ rfl; (with_reducible repeat (first | refine blk_drewN ?_ _ | refine blk_drew ?_ | refine blk_alloc ?_ _)); exact BK852.out) hb); have n12_ := Aside0.mk (below_step (w := w) bW hb); clear HO827; clear HO830; clear HO833; clear HO836; clear HO841; clear HO844; clear HO848; clear HO851; clear BK821; clear BK822; clear BK845; clear BK852; clear HB; have HO827 := n0_; have HO830 := n1_; have HO833 := n2_; have HO836 := n3_; have HO841 := n4_; have HO844 := n5_; have HO848 := n6_; have HO851 := n7_; have BK821 := n8_; have BK822 := n9_; have BK845 := n10_; have BK852 := n11_; have HB := n12_; clear n0_ n1_ n2_ n3_ n4_ n5_ n6_ n7_ n8_ n9_ n10_ n11_ n12_; (try clear hb); (try clear hb2); (try clear hk); (try clear hi)))
   (try simp only [Act.put, List.setIfInBounds_toArray, List.set_cons_zero, List.set_cons_succ])
   go_cut [47] (fun v47 wc => ∃ (kq : Nat) (x47_24 : Bool), v47 = .bool x47_24 ∧ Aside0 (laws_FnExactGrowsFrom.j0 kq x47_24 l0_0 l0_1 l1_0 l1_1 t839 t842 t846 t849 = some true) ∧ Aside0 (kq ≤ k) ∧ Aside0 (Kd.S k118 118 wc w.heap.size (fun k_ => some k_ ≠ ((.slice Ao52 t846.length co52) : Value).ownBlock) (.slice Ao44 t839.length co44) t839) ∧ Aside0 (Kd.R k178 178 wc w.heap.size (fun k_ => some k_ ≠ ((.slice Ao57 t849.length co57) : Value).ownBlock) (.slice Ao48 t842.length co48) t842) ∧ Aside0 (Kd.S k118 118 wc w.heap.size (fun k_ => some k_ ≠ ((.slice Ao44 t839.length co44) : Value).ownBlock) (.slice Ao52 t846.length co52) t846) ∧ Aside0 (Kd.R k178 178 wc w.heap.size (fun k_ => some k_ ≠ ((.slice Ao48 t842.length co48) : Value).ownBlock) (.slice Ao57 t849.length co57) t849) ∧ Aside0 (wc.heap[gb821]? = some (.cells #[(.slice A0_0 l0_0.length c0_0), (.slice A0_1 l0_1.length c0_1)] 57 (0, 0))) ∧ Aside0 (wc.heap[gb822]? = some (.cells #[(.slice A1_0 l1_0.length c1_0), (.slice A1_1 l1_1.length c1_1)] 57 (0, 0))) ∧ Aside0 (wc.heap[gb845]? = some (.cells #[(.slice Ao44 t839.length co44), (.slice Ao48 t842.length co48)] 66 (0, 0))) ∧ Aside0 (wc.heap[gb852]? = some (.cells #[(.slice Ao52 t846.length co52), (.slice Ao57 t849.length co57)] 66 (0, 0))) ∧ Aside0 (Below w.heap.size w wc))
   case first =>
    have H := HC25.out
    clear HC25
    by_cases c60 : (t853 != t837) = true
    ·rw [if_pos c60] at H
     have c60b0 : (t853 != t837) = true := c60
     (try (have c60b1 : decide (t853 = t837) = false := by simpa using c60))
     (try (have c60b2 : (t853 == t837) = false := by simpa using c60))
     (try (have c60b3 : ¬ (t853 = t837) := by simpa using c60))
     clear c60
     (first | rw [c60b0] | (simp only [i64_w, i32_w]; rw [c60b0]) | skip)
     have H' := Aside0.mk H
     clear H
     go_wp2
     go_meet
     case rel => exact ⟨_, (true), vE, H', ⟨by first | omega | exact Nat.le_refl _⟩, ⟨by (with_reducible repeat (first | apply Kd.S_alloc | apply Kd.S_drewN | apply Kd.S_drew)); exact Kd.S_mono HO841.out (fun _ hk => hk.2)⟩, ⟨by (with_reducible repeat (first | apply Kd.R_alloc | apply Kd.R_drewN | apply Kd.R_drew)); exact Kd.R_mono HO844.out (fun _ hk => hk.2)⟩, ⟨by (with_reducible repeat (first | apply Kd.S_alloc | apply Kd.S_drewN | apply Kd.S_drew)); exact Kd.S_mono HO848.out (fun _ hk => hk.2)⟩, ⟨by (with_reducible repeat (first | apply Kd.R_alloc | apply Kd.R_drewN | apply Kd.R_drew)); exact Kd.R_mono HO851.out (fun _ hk => hk.2)⟩, ⟨by (with_reducible repeat (first | refine blk_drewN ?_ _ | refine blk_drew ?_ | refine blk_alloc ?_ _)); exact BK821.out⟩, ⟨by (with_reducible repeat (first | refine blk_drewN ?_ _ | refine blk_drew ?_ | refine blk_alloc ?_ _)); exact BK822.out⟩, ⟨by (with_reducible repeat (first | refine blk_drewN ?_ _ | refine blk_drew ?_ | refine blk_alloc ?_ _)); exact BK845.out⟩, ⟨by (with_reducible repeat (first | refine blk_drewN ?_ _ | refine blk_drew ?_ | refine blk_alloc ?_ _)); exact BK852.out⟩, ⟨bW⟩⟩
    ·rw [if_neg c60] at H
     have c60b0 : (t853 != t837) = false := by simpa using c60
     (try (have c60b1 : decide (t853 = t837) = true := by simpa using c60))
     (try (have c60b2 : (t853 == t837) = true := by simpa using c60))
     clear c60
     (first | rw [c60b0] | (simp only [i64_w, i32_w]; rw [c60b0]) | skip)
     have H' := Aside0.mk H
     clear H
     go_wp2
     go_meet
     case rel => exact ⟨_, ((t854 != t838)), vE, H', ⟨by first | omega | exact Nat.le_refl _⟩, ⟨by (with_reducible repeat (first | apply Kd.S_alloc | apply Kd.S_drewN | apply Kd.S_drew)); exact Kd.S_mono HO841.out (fun _ hk => hk.2)⟩, ⟨by (with_reducible repeat (first | apply Kd.R_alloc | apply Kd.R_drewN | apply Kd.R_drew)); exact Kd.R_mono HO844.out (fun _ hk => hk.2)⟩, ⟨by (with_reducible repeat (first | apply Kd.S_alloc | apply Kd.S_drewN | apply Kd.S_drew)); exact Kd.S_mono HO848.out (fun _ hk => hk.2)⟩, ⟨by (with_reducible repeat (first | apply Kd.R_alloc | apply Kd.R_drewN | apply Kd.R_drew)); exact Kd.R_mono HO851.out (fun _ hk => hk.2)⟩, ⟨by (with_reducible repeat (first | refine blk_drewN ?_ _ | refine blk_drew ?_ | refine blk_alloc ?_ _)); exact BK821.out⟩, ⟨by (with_reducible repeat (first | refine blk_drewN ?_ _ | refine blk_drew ?_ | refine blk_alloc ?_ _)); exact BK822.out⟩, ⟨by (with_reducible repeat (first | refine blk_drewN ?_ _ | refine blk_drew ?_ | refine blk_alloc ?_ _)); exact BK845.out⟩, ⟨by (with_reducible repeat (first | refine blk_drewN ?_ _ | refine blk_drew ?_ | refine blk_alloc ?_ _)); exact BK852.out⟩, ⟨bW⟩⟩
   case rest =>
    clear HC25
    try clear c1
    try clear c2
    try clear p2
    try clear c3
    try clear c4
    try clear c4b0
    try clear c5
    try clear c6
    try clear c7
    try clear c10
    try clear c11
    try clear c11b0
    try clear c14
    try clear c28
    try clear c38
    try clear c41
    try clear c45
    try clear c46
    try clear c48
    try clear c49
    try clear c53
    try clear c54
    try clear c55
    try clear c60
    try clear c60b0
    try clear c60b1
    try clear c60b2
    try clear hcz15_0
    try clear hcz15_1
    try clear hcz17_0
    try clear hcz17_1
    try clear hcz29_0
    try clear hcz29_1
    try clear hcz31_0
    try clear hcz31_1
    try clear hcz41_0
    try clear hcz41_1
    try clear hcz47_0
    try clear hcz47_1
    try clear hcz49_0
    try clear hcz49_1
    try clear hcz56_0
    try clear hcz56_1
    try clear hcz58_0
    try clear hcz58_1
    try clear hcz8_0
    try clear hcz8_1
    try clear hfz15_0
    try clear hfz15_1
    try clear hfz17_0
    try clear hfz17_1
    try clear hfz29_0
    try clear hfz29_1
    try clear hfz31_0
    try clear hfz31_1
    try clear hfz41_0
    try clear hfz41_1
    try clear hfz47_0
    try clear hfz47_1
    try clear hfz49_0
    try clear hfz49_1
    try clear hfz56_0
    try clear hfz56_1
    try clear hfz58_0
    try clear hfz58_1
    try clear hfz8_0
    try clear hfz8_1
    obtain ⟨kq, x47_24, rfl, HA, HJ24, HO_846000, HO_846001, HO_853000, HO_853001, BK821, BK822, BK845, BK852, HB⟩ := hcut
    cases kq with
    | zero => exact absurd HA.out (by simp [laws_FnExactGrowsFrom.j0])
    | succ kj24 =>
     have H := HA.out
     clear HA
     simp only [laws_FnExactGrowsFrom.j0] at H
     by_cases c61 : x47_24 = true
     ·subst c61
      have H1 : (some false) = some true := by rw [if_pos rfl] at H; exact H
      exact absurd H1 (by simp)
     ·replace c61 := Bool.eq_false_iff.mpr c61
      subst c61
      have H1 : ((laws_toBase.f kj24 l0_0 l0_1).bind fun bt855 => ((laws_eqBase.f kj24 t839 t842 bt855.1 bt855.2).bind fun t861 => (if t861 = true then ((laws_toBase.f kj24 l1_0 l1_1).bind fun bt862 => ((laws_eqBase.f kj24 t846 t849 bt862.1 bt862.2).bind fun t868 => (if t868 = true then (some true) else (some false)))) else (some false)))) = some true := by rw [if_neg (show ¬ (false = true) by decide)] at H; exact H
      clear H
      have H := H1
      clear H1
      replace H := Option.bind_eq_some_iff.mp H
      obtain ⟨⟨t855, t858⟩, A620, H⟩ := H
      replace H : ((laws_eqBase.f kj24 t839 t842 t855 t858).bind fun t861 => (if t861 = true then ((laws_toBase.f kj24 l1_0 l1_1).bind fun bt862 => ((laws_eqBase.f kj24 t846 t849 bt862.1 bt862.2).bind fun t868 => (if t868 = true then (some true) else (some false)))) else (some false))) = some true := H
      have A62 := Aside0.mk A620
      clear A620
      replace H := Option.bind_eq_some_iff.mp H
      obtain ⟨t861, A630, H⟩ := H
      replace H : (if t861 = true then ((laws_toBase.f kj24 l1_0 l1_1).bind fun bt862 => ((laws_eqBase.f kj24 t846 t849 bt862.1 bt862.2).bind fun t868 => (if t868 = true then (some true) else (some false)))) else (some false)) = some true := H
      have A63 := Aside0.mk A630
      clear A630
      by_cases c64 : t861 = true
      ·subst c64
       have H1 : ((laws_toBase.f kj24 l1_0 l1_1).bind fun bt862 => ((laws_eqBase.f kj24 t846 t849 bt862.1 bt862.2).bind fun t868 => (if t868 = true then (some true) else (some false)))) = some true := by rw [if_pos rfl] at H; exact H
       clear H
       have H := H1
       clear H1
       replace H := Option.bind_eq_some_iff.mp H
       obtain ⟨⟨t862, t865⟩, A650, H⟩ := H
       replace H : ((laws_eqBase.f kj24 t846 t849 t862 t865).bind fun t868 => (if t868 = true then (some true) else (some false))) = some true := H
       have A65 := Aside0.mk A650
       clear A650
       replace H := Option.bind_eq_some_iff.mp H
       obtain ⟨t868, A660, H⟩ := H
       replace H : (if t868 = true then (some true) else (some false)) = some true := H
       have A66 := Aside0.mk A660
       clear A660
       by_cases c67 : t868 = true
       ·subst c67
        have H1 : (some true) = some true := rfl
        clear H
        have H := H1
        clear H1
        clear H
        try go_wp2
        have n0_ := Aside0.mk (Kd.S_drew HO_846000.out)
        have n1_ := Aside0.mk (Kd.R_drew HO_846001.out)
        have n2_ := Aside0.mk (Kd.S_drew HO_853000.out)
        have n3_ := Aside0.mk (Kd.R_drew HO_853001.out)
        have n4_ := Aside0.mk (blk_drew BK821.out)
        have n5_ := Aside0.mk (blk_drew BK822.out)
        have n6_ := Aside0.mk (blk_drew BK845.out)
        have n7_ := Aside0.mk (blk_drew BK852.out)
        have n8_ := Aside0.mk (below_drew1 HB.out)
        clear HO_846000
        clear HO_846001
        clear HO_853000
        clear HO_853001
        clear BK821
        clear BK822
        clear BK845
        clear BK852
        clear HB
        have HO_846000 := n0_
        have HO_846001 := n1_
        have HO_853000 := n2_
        have HO_853001 := n3_
        have BK821 := n4_
        have BK822 := n5_
        have BK845 := n6_
        have BK852 := n7_
        have HB := n8_
        clear n0_ n1_ n2_ n3_ n4_ n5_ n6_ n7_ n8_
        refine start_ (n := 5) (S := fun w' => w'.cell? ⟨gb845, 0, none⟩ = some (.slice Ao44 t839.length co44) ∧ w'.cell? ⟨gb845, 1, none⟩ = some (.slice Ao48 t842.length co48) ∧ w'.cell? ⟨gb821, 0, none⟩ = some (.slice A0_0 l0_0.length c0_0) ∧ w'.cell? ⟨gb821, 1, none⟩ = some (.slice A0_1 l0_1.length c0_1)) (ds := []) #[false, false, false, false, false] (by kernel_rfl) rfl rfl ⟨(blk_cell BK845.out 0).trans rfl, (blk_cell BK845.out 1).trans rfl, (blk_cell BK821.out 0).trans rfl, (blk_cell BK821.out 1).trans rfl⟩ (fun hHeld => ?_)
        generalize wc.drew = w68 at HO_846000 HO_846001 HO_853000 HO_853001 BK821 BK822 BK845 BK852 HB hHeld ⊢
        refine take_ (i := 0) (N := some 48) (v := ?_) (a' := ?_) #[true, false, false, false, false] rfl rfl (by kernel_rfl) (fun _ _ _ h => h) (Or.inl ⟨by rfl, ?_⟩) hHeld ?_ ?_; rotate_left; (focus rintro w' ⟨s0, s1, s2, s3⟩; go_simp; with_reducible rfl); rotate_left; (focus simp only [pt, i64_w, i32_w]; rfl)
        refine take_ (i := 1) (N := some 49) (v := ?_) (a' := ?_) #[true, true, false, false, false] rfl rfl (by kernel_rfl) (fun _ _ _ h => h) (Or.inl ⟨by rfl, ?_⟩) hHeld ?_ ?_; rotate_left; (focus rintro w' ⟨s0, s1, s2, s3⟩; go_simp; with_reducible rfl); rotate_left; (focus simp only [pt, i64_w, i32_w]; rfl)
        refine one_ (i := 2) (N := some 50) #[true, true, true, false, false] rfl rfl (by kernel_rfl) (by decide) (fun K hK => ?_)
        refine goes_ Try.func41 (by kernel_rfl) rfl #[.agg #[.slice A0_0 l0_0.length c0_0, .slice A0_1 l0_1.length c0_1]] (by rfl) rfl rfl gA ?_
        with_reducible refine (laws_toBase.calls kj24 _ _ l0_0 _ _ l0_1 t855 t858 _ ?side1 ?side2 ?side3 ?side4 A62.out).mono ?_
        (case side1 => exact cB HR0_0)
        (case side2 => exact HC0_0.out)
        (case side3 => exact cB HR0_1)
        (case side4 => exact HC0_1.out)
        rintro e w69 ⟨v856, v859, rfl, ho0, ho1, hb⟩
        refine ⟨_, rfl, ?_⟩
        have n0_ := Aside0.mk (Kd.S_elder' (pS HO_846000) (Kd.S_base ho0) hb)
        have n1_ := Aside0.mk (Kd.R_elder' (pR HO_846001) (Kd.R_base ho1) hb)
        have n2_ := Aside0.mk (Kd.S_elder' (pS HO_853000) (Kd.S_base ho0) hb)
        have n3_ := Aside0.mk (Kd.R_elder' (pR HO_853001) (Kd.R_base ho1) hb)
        have n4_ := Aside0.mk (Kd.S_lower (Kd.S_new' (Kd.S_new' ho0 (Kd.S_lt (pS HO_846000))) (Kd.S_lt (pS HO_853000))) (below_size (w := w) bW))
        have n5_ := Aside0.mk (Kd.R_lower (Kd.R_new' (Kd.R_new' ho1 (Kd.R_lt (pR HO_846001))) (Kd.R_lt (pR HO_853001))) (below_size (w := w) bW))
        have n6_ := Aside0.mk (kb BK821 hb)
        have n7_ := Aside0.mk (kb BK822 hb)
        have n8_ := Aside0.mk (kb BK845 hb)
        have n9_ := Aside0.mk (kb BK852 hb)
        have n10_ := Aside0.mk (below_step (w := w) bW hb)
        clear HO_846000
        clear HO_846001
        clear HO_853000
        clear HO_853001
        clear BK821
        clear BK822
        clear BK845
        clear BK852
        clear HB
        have HO_846000 := n0_
        have HO_846001 := n1_
        have HO_853000 := n2_
        have HO_853001 := n3_
        have HO857 := n4_
        have HO860 := n5_
        have BK821 := n6_
        have BK822 := n7_
        have BK845 := n8_
        have BK852 := n9_
        have HB := n10_
        clear n0_ n1_ n2_ n3_ n4_ n5_ n6_ n7_ n8_ n9_ n10_
        (try clear hb)
        (try clear hb2)
        (try clear hk)
        (try clear hi)
        (try clear ho0)
        (try clear ho1)
        obtain ⟨Ao70, co70, eo70⟩ := Kd.S_slice HO857.out
        (first | subst eo70 | (injection eo70 with f1_ f2_ f3_; have f4_ := f1_.symm; have f5_ := f3_.symm; clear f1_ f2_ f3_; subst f4_; subst f5_))
        obtain ⟨Ao71, co71, eo71⟩ := Kd.R_slice HO860.out
        (first | subst eo71 | (injection eo71 with f1_ f2_ f3_; have f4_ := f1_.symm; have f5_ := f3_.symm; clear f1_ f2_ f3_; subst f4_; subst f5_))
        refine hK.out _ _ ⟨(blk_cell BK845.out 0).trans rfl, (blk_cell BK845.out 1).trans rfl, (blk_cell BK821.out 0).trans rfl, (blk_cell BK821.out 1).trans rfl⟩ (fun hHeld => ?_)
        clear hK K
        refine norm_ (a' := ?_) ?_ ?_
        rotate_left
        ·show Act.put _ (some 50) _ = _
         simp only [Act.put, List.setIfInBounds_toArray, List.set_cons_zero, List.set_cons_succ, i64_w, i32_w]
         rfl
        refine one_ (i := 3) (N := some 51) #[true, true, true, true, false] rfl rfl (by kernel_rfl) (by decide) (fun K hK => ?_)
        refine goes_ Try.func44 (by kernel_rfl) rfl #[.agg #[.slice Ao44 t839.length co44, .slice Ao48 t842.length co48], .agg #[.slice Ao70 t855.length co70, .slice Ao71 t858.length co71]] (by rfl) rfl rfl gA ?_
        with_reducible refine (laws_eqBase.calls kj24 _ _ t839 _ _ t842 _ _ t855 _ _ t858 true _ ?side1 ?side2 ?side3 ?side4 ?side5 ?side6 ?side7 ?side8 A63.out).mono ?_
        (case side1 => repeat (first | exact (Kd.S_reads' HO_846000.out).2.2 | (with_reducible refine Kd.C_alloc ?_ _) | (with_reducible refine Kd.C_drewN ?_ _) | (with_reducible refine Kd.C_drew ?_)))
        (case side2 => exact (Kd.S_reads' HO_846000.out).2.1)
        (case side3 => repeat (first | exact (Kd.R_reads' HO_846001.out).2.2 | (with_reducible refine Kd.C_alloc ?_ _) | (with_reducible refine Kd.C_drewN ?_ _) | (with_reducible refine Kd.C_drew ?_)))
        (case side4 => exact (Kd.R_reads' HO_846001.out).2.1)
        (case side5 => repeat (first | exact (Kd.S_reads' HO857.out).2.2 | (with_reducible refine Kd.C_alloc ?_ _) | (with_reducible refine Kd.C_drewN ?_ _) | (with_reducible refine Kd.C_drew ?_)))
        (case side6 => exact (Kd.S_reads' HO857.out).2.1)
        (case side7 => repeat (first | exact (Kd.R_reads' HO860.out).2.2 | (with_reducible refine Kd.C_alloc ?_ _) | (with_reducible refine Kd.C_drewN ?_ _) | (with_reducible refine Kd.C_drew ?_)))
        (case side8 => exact (Kd.R_reads' HO860.out).2.1)
        rintro e w72 ⟨rfl, hb⟩
        refine ⟨_, rfl, ?_⟩
        have n0_ := Aside0.mk (Kd.S_below (pS HO_846000) hb)
        have n1_ := Aside0.mk (Kd.R_below (pR HO_846001) hb)
        have n2_ := Aside0.mk (Kd.S_below (pS HO_853000) hb)
        have n3_ := Aside0.mk (Kd.R_below (pR HO_853001) hb)
        have n4_ := Aside0.mk (Kd.S_below (pS HO857) hb)
        have n5_ := Aside0.mk (Kd.R_below (pR HO860) hb)
        have n6_ := Aside0.mk (kb BK821 hb)
        have n7_ := Aside0.mk (kb BK822 hb)
        have n8_ := Aside0.mk (kb BK845 hb)
        have n9_ := Aside0.mk (kb BK852 hb)
        have n10_ := Aside0.mk (below_step (w := w) bW hb)
        clear HO_846000
        clear HO_846001
        clear HO_853000
        clear HO_853001
        clear HO857
        clear HO860
        clear BK821
        clear BK822
        clear BK845
        clear BK852
        clear HB
        have HO_846000 := n0_
        have HO_846001 := n1_
        have HO_853000 := n2_
        have HO_853001 := n3_
        have HO857 := n4_
        have HO860 := n5_
        have BK821 := n6_
        have BK822 := n7_
        have BK845 := n8_
        have BK852 := n9_
        have HB := n10_
        clear n0_ n1_ n2_ n3_ n4_ n5_ n6_ n7_ n8_ n9_ n10_
        (try clear hb)
        (try clear hb2)
        (try clear hk)
        (try clear hi)
        refine hK.out _ _ ⟨(blk_cell BK845.out 0).trans rfl, (blk_cell BK845.out 1).trans rfl, (blk_cell BK821.out 0).trans rfl, (blk_cell BK821.out 1).trans rfl⟩ (fun hHeld => ?_)
        clear hK K
        refine norm_ (a' := ?_) ?_ ?_
        rotate_left
        ·show Act.put _ (some 51) _ = _
         simp only [Act.put, List.setIfInBounds_toArray, List.set_cons_zero, List.set_cons_succ, i64_w, i32_w]
         rfl
        refine pure_ (i := 4) (N := some 52) (v := ?_) (a' := ?_) #[true, true, true, true, true] rfl rfl (by kernel_rfl) (fun _ _ _ h => h) (Or.inl ⟨by rfl, ?_⟩) ?_ ?_; rotate_left; (focus intro w'; go_simp; with_reducible rfl); rotate_left; (focus simp only [pt, i64_w, i32_w]; rfl)
        refine done_ (by kernel_rfl) ?_
        try go_wp2
        have n0_ := Aside0.mk (Kd.S_drew HO_846000.out)
        have n1_ := Aside0.mk (Kd.R_drew HO_846001.out)
        have n2_ := Aside0.mk (Kd.S_drew HO_853000.out)
        have n3_ := Aside0.mk (Kd.R_drew HO_853001.out)
        have n4_ := Aside0.mk (Kd.S_drew HO857.out)
        have n5_ := Aside0.mk (Kd.R_drew HO860.out)
        have n6_ := Aside0.mk (blk_drew BK821.out)
        have n7_ := Aside0.mk (blk_drew BK822.out)
        have n8_ := Aside0.mk (blk_drew BK845.out)
        have n9_ := Aside0.mk (blk_drew BK852.out)
        have n10_ := Aside0.mk (below_drew1 HB.out)
        clear HO_846000
        clear HO_846001
        clear HO_853000
        clear HO_853001
        clear HO857
        clear HO860
        clear BK821
        clear BK822
        clear BK845
        clear BK852
        clear HB
        have HO_846000 := n0_
        have HO_846001 := n1_
        have HO_853000 := n2_
        have HO_853001 := n3_
        have HO857 := n4_
        have HO860 := n5_
        have BK821 := n6_
        have BK822 := n7_
        have BK845 := n8_
        have BK852 := n9_
        have HB := n10_
        clear n0_ n1_ n2_ n3_ n4_ n5_ n6_ n7_ n8_ n9_ n10_
        refine start_ (n := 5) (S := fun w' => w'.cell? ⟨gb852, 0, none⟩ = some (.slice Ao52 t846.length co52) ∧ w'.cell? ⟨gb852, 1, none⟩ = some (.slice Ao57 t849.length co57) ∧ w'.cell? ⟨gb822, 0, none⟩ = some (.slice A1_0 l1_0.length c1_0) ∧ w'.cell? ⟨gb822, 1, none⟩ = some (.slice A1_1 l1_1.length c1_1)) (ds := []) #[false, false, false, false, false] (by kernel_rfl) rfl rfl ⟨(blk_cell BK852.out 0).trans rfl, (blk_cell BK852.out 1).trans rfl, (blk_cell BK822.out 0).trans rfl, (blk_cell BK822.out 1).trans rfl⟩ (fun hHeld => ?_)
        generalize w72.drew = w73 at HO_846000 HO_846001 HO_853000 HO_853001 HO857 HO860 BK821 BK822 BK845 BK852 HB hHeld ⊢
        refine take_ (i := 0) (N := some 53) (v := ?_) (a' := ?_) #[true, false, false, false, false] rfl rfl (by kernel_rfl) (fun _ _ _ h => h) (Or.inl ⟨by rfl, ?_⟩) hHeld ?_ ?_; rotate_left; (focus rintro w' ⟨s0, s1, s2, s3⟩; go_simp; with_reducible rfl); rotate_left; (focus simp only [pt, i64_w, i32_w]; rfl)
        refine take_ (i := 1) (N := some 54) (v := ?_) (a' := ?_) #[true, true, false, false, false] rfl rfl (by kernel_rfl) (fun _ _ _ h => h) (Or.inl ⟨by rfl, ?_⟩) hHeld ?_ ?_; rotate_left; (focus rintro w' ⟨s0, s1, s2, s3⟩; go_simp; with_reducible rfl); rotate_left; (focus simp only [pt, i64_w, i32_w]; rfl)
        refine one_ (i := 2) (N := some 55) #[true, true, true, false, false] rfl rfl (by kernel_rfl) (by decide) (fun K hK => ?_)
        refine goes_ Try.func41 (by kernel_rfl) rfl #[.agg #[.slice A1_0 l1_0.length c1_0, .slice A1_1 l1_1.length c1_1]] (by rfl) rfl rfl gA ?_
        with_reducible refine (laws_toBase.calls kj24 _ _ l1_0 _ _ l1_1 t862 t865 _ ?side1 ?side2 ?side3 ?side4 A65.out).mono ?_
        (case side1 => exact cB HR1_0)
        (case side2 => exact HC1_0.out)
        (case side3 => exact cB HR1_1)
        (case side4 => exact HC1_1.out)
        rintro e w74 ⟨v863, v866, rfl, ho0, ho1, hb⟩
        refine ⟨_, rfl, ?_⟩
        have n0_ := Aside0.mk (Kd.S_elder' (pS HO_846000) (Kd.S_base ho0) hb)
        have n1_ := Aside0.mk (Kd.R_elder' (pR HO_846001) (Kd.R_base ho1) hb)
        have n2_ := Aside0.mk (Kd.S_elder' (pS HO_853000) (Kd.S_base ho0) hb)
        have n3_ := Aside0.mk (Kd.R_elder' (pR HO_853001) (Kd.R_base ho1) hb)
        have n4_ := Aside0.mk (Kd.S_elder' (pS HO857) (Kd.S_base ho0) hb)
        have n5_ := Aside0.mk (Kd.R_elder' (pR HO860) (Kd.R_base ho1) hb)
        have n6_ := Aside0.mk (Kd.S_lower (Kd.S_new' (Kd.S_new' (Kd.S_new' ho0 (Kd.S_lt (pS HO_846000))) (Kd.S_lt (pS HO_853000))) (Kd.S_lt (pS HO857))) (below_size (w := w) bW))
        have n7_ := Aside0.mk (Kd.R_lower (Kd.R_new' (Kd.R_new' (Kd.R_new' ho1 (Kd.R_lt (pR HO_846001))) (Kd.R_lt (pR HO_853001))) (Kd.R_lt (pR HO860))) (below_size (w := w) bW))
        have n8_ := Aside0.mk (kb BK821 hb)
        have n9_ := Aside0.mk (kb BK822 hb)
        have n10_ := Aside0.mk (kb BK845 hb)
        have n11_ := Aside0.mk (kb BK852 hb)
        have n12_ := Aside0.mk (below_step (w := w) bW hb)
        clear HO_846000
        clear HO_846001
        clear HO_853000
        clear HO_853001
        clear HO857
        clear HO860
        clear BK821
        clear BK822
        clear BK845
        clear BK852
        clear HB
        have HO_846000 := n0_
        have HO_846001 := n1_
        have HO_853000 := n2_
        have HO_853001 := n3_
        have HO857 := n4_
        have HO860 := n5_
        have HO864 := n6_
        have HO867 := n7_
        have BK821 := n8_
        have BK822 := n9_
        have BK845 := n10_
        have BK852 := n11_
        have HB := n12_
        clear n0_ n1_ n2_ n3_ n4_ n5_ n6_ n7_ n8_ n9_ n10_ n11_ n12_
        (try clear hb)
        (try clear hb2)
        (try clear hk)
        (try clear hi)
        (try clear ho0)
        (try clear ho1)
        obtain ⟨Ao75, co75, eo75⟩ := Kd.S_slice HO864.out
        (first | subst eo75 | (injection eo75 with f1_ f2_ f3_; have f4_ := f1_.symm; have f5_ := f3_.symm; clear f1_ f2_ f3_; subst f4_; subst f5_))
        obtain ⟨Ao76, co76, eo76⟩ := Kd.R_slice HO867.out
        (first | subst eo76 | (injection eo76 with f1_ f2_ f3_; have f4_ := f1_.symm; have f5_ := f3_.symm; clear f1_ f2_ f3_; subst f4_; subst f5_))
        refine hK.out _ _ ⟨(blk_cell BK852.out 0).trans rfl, (blk_cell BK852.out 1).trans rfl, (blk_cell BK822.out 0).trans rfl, (blk_cell BK822.out 1).trans rfl⟩ (fun hHeld => ?_)
        clear hK K
        refine norm_ (a' := ?_) ?_ ?_
        rotate_left
        ·show Act.put _ (some 55) _ = _
         simp only [Act.put, List.setIfInBounds_toArray, List.set_cons_zero, List.set_cons_succ, i64_w, i32_w]
         rfl
        refine one_ (i := 3) (N := some 56) #[true, true, true, true, false] rfl rfl (by kernel_rfl) (by decide) (fun K hK => ?_)
        refine goes_ Try.func44 (by kernel_rfl) rfl #[.agg #[.slice Ao52 t846.length co52, .slice Ao57 t849.length co57], .agg #[.slice Ao75 t862.length co75, .slice Ao76 t865.length co76]] (by rfl) rfl rfl gA ?_
        with_reducible refine (laws_eqBase.calls kj24 _ _ t846 _ _ t849 _ _ t862 _ _ t865 true _ ?side1 ?side2 ?side3 ?side4 ?side5 ?side6 ?side7 ?side8 A66.out).mono ?_
        (case side1 => repeat (first | exact (Kd.S_reads' HO_853000.out).2.2 | (with_reducible refine Kd.C_alloc ?_ _) | (with_reducible refine Kd.C_drewN ?_ _) | (with_reducible refine Kd.C_drew ?_)))
        (case side2 => exact (Kd.S_reads' HO_853000.out).2.1)
        (case side3 => repeat (first | exact (Kd.R_reads' HO_853001.out).2.2 | (with_reducible refine Kd.C_alloc ?_ _) | (with_reducible refine Kd.C_drewN ?_ _) | (with_reducible refine Kd.C_drew ?_)))
        (case side4 => exact (Kd.R_reads' HO_853001.out).2.1)
        (case side5 => repeat (first | exact (Kd.S_reads' HO864.out).2.2 | (with_reducible refine Kd.C_alloc ?_ _) | (with_reducible refine Kd.C_drewN ?_ _) | (with_reducible refine Kd.C_drew ?_)))
        (case side6 => exact (Kd.S_reads' HO864.out).2.1)
        (case side7 => repeat (first | exact (Kd.R_reads' HO867.out).2.2 | (with_reducible refine Kd.C_alloc ?_ _) | (with_reducible refine Kd.C_drewN ?_ _) | (with_reducible refine Kd.C_drew ?_)))
        (case side8 => exact (Kd.R_reads' HO867.out).2.1)
        rintro e w77 ⟨rfl, hb⟩
        refine ⟨_, rfl, ?_⟩
        have n0_ := Aside0.mk (Kd.S_below (pS HO_846000) hb)
        have n1_ := Aside0.mk (Kd.R_below (pR HO_846001) hb)
        have n2_ := Aside0.mk (Kd.S_below (pS HO_853000) hb)
        have n3_ := Aside0.mk (Kd.R_below (pR HO_853001) hb)
        have n4_ := Aside0.mk (Kd.S_below (pS HO857) hb)
        have n5_ := Aside0.mk (Kd.R_below (pR HO860) hb)
        have n6_ := Aside0.mk (Kd.S_below (pS HO864) hb)
        have n7_ := Aside0.mk (Kd.R_below (pR HO867) hb)
        have n8_ := Aside0.mk (kb BK821 hb)
        have n9_ := Aside0.mk (kb BK822 hb)
        have n10_ := Aside0.mk (kb BK845 hb)
        have n11_ := Aside0.mk (kb BK852 hb)
        have n12_ := Aside0.mk (below_step (w := w) bW hb)
        clear HO_846000
        clear HO_846001
        clear HO_853000
        clear HO_853001
        clear HO857
        clear HO860
        clear HO864
        clear HO867
        clear BK821
        clear BK822
        clear BK845
        clear BK852
        clear HB
        have HO_846000 := n0_
        have HO_846001 := n1_
        have HO_853000 := n2_
        have HO_853001 := n3_
        have HO857 := n4_
        have HO860 := n5_
        have HO864 := n6_
        have HO867 := n7_
        have BK821 := n8_
        have BK822 := n9_
        have BK845 := n10_
        have BK852 := n11_
        have HB := n12_
        clear n0_ n1_ n2_ n3_ n4_ n5_ n6_ n7_ n8_ n9_ n10_ n11_ n12_
        (try clear hb)
        (try clear hb2)
        (try clear hk)
        (try clear hi)
        refine hK.out _ _ ⟨(blk_cell BK852.out 0).trans rfl, (blk_cell BK852.out 1).trans rfl, (blk_cell BK822.out 0).trans rfl, (blk_cell BK822.out 1).trans rfl⟩ (fun hHeld => ?_)
        clear hK K
        refine norm_ (a' := ?_) ?_ ?_
        rotate_left
        ·show Act.put _ (some 56) _ = _
         simp only [Act.put, List.setIfInBounds_toArray, List.set_cons_zero, List.set_cons_succ, i64_w, i32_w]
         rfl
        refine pure_ (i := 4) (N := some 57) (v := ?_) (a' := ?_) #[true, true, true, true, true] rfl rfl (by kernel_rfl) (fun _ _ _ h => h) (Or.inl ⟨by rfl, ?_⟩) ?_ ?_; rotate_left; (focus intro w'; go_simp; with_reducible rfl); rotate_left; (focus simp only [pt, i64_w, i32_w]; rfl)
        refine done_ (by kernel_rfl) ?_
        try go_wp2
        go_ret
        exact ⟨rE, bW⟩
       ·replace c67 := Bool.eq_false_iff.mpr c67
        subst c67
        have H1 : (some false) = some true := by rw [if_neg (show ¬ (false = true) by decide)] at H; exact H
        exact absurd H1 (by simp)
      ·replace c64 := Bool.eq_false_iff.mpr c64
       subst c64
       have H1 : (some false) = some true := by rw [if_neg (show ¬ (false = true) by decide)] at H; exact H
       exact absurd H1 (by simp)
end Go.Proofs.Ytcpljigliklgcaa.Q
end

section
namespace Go.Proofs.Ytcpljigliklgcaa.Q
open Go.RowKit Go.Proofs.YtcpljigliklgcaaW.PrintWords Go.Proofs.YtcpljigliklgcaaW.PrintLast Go.Proofs.YtcpljigliklgcaaW.PrintMore
attribute [local go_sem] max2_int min2_int max_two min_two max_three min_three max_four min_four   -- for this text's walks alone
set_option linter.unusedVariables false
set_option linter.unusedSimpArgs false
attribute [local go_sem] bin_leq bin_gtr bin_geq
def Opens {α : Type} (P : Program) (d : Kd α) (t : TypeId) (G : α → Prop) : Prop :=
  P.cellsOf t = d.sz ∧ ∀ {H : Type} (enc : TypeId × Value → H) (w : World) (base : Nat) (spare : Nat → Bool) (held : Bool) (fuel : Nat) (cs : List Value) (x : DataW H × List MemPlace),
    DataW.trod enc P w base spare held fuel t cs = some x → ∃ v, d.K w v cs ∧ G v
theorem add_twice (a : Addr) (m i : Nat) : (a.add m).add i = a.add (m + i) := by
  unfold Addr.add
  by_cases h1 : m = 0 <;> by_cases h2 : i = 0 <;> simp_all [Nat.add_assoc]
theorem opens_int {P : Program} {t : TypeId} {k : IntKind} (ht : P.underlying t = some (.int k)) (hc : P.cellsOf t = 1) : Opens P (Kd.int k) t (fun n => (Lit.int k n).wf = true) := by
  refine ⟨hc, fun enc w base spare held fuel cs x h => ?_⟩
  cases fuel with
  | zero => simp [DataW.trod] at h
  | succ n =>
    unfold DataW.trod at h
    rw [ht] at h
    split at h <;> simp_all
    obtain ⟨⟨rfl, h1⟩, _⟩ := h
    exact ⟨_, rfl, h1⟩
theorem opens_bool {P : Program} {t : TypeId} (ht : P.underlying t = some .bool) (hc : P.cellsOf t = 1) : Opens P Kd.bool t (fun _ => True) := by
  refine ⟨hc, fun enc w base spare held fuel cs x h => ?_⟩
  cases fuel with
  | zero => simp [DataW.trod] at h
  | succ n =>
    unfold DataW.trod at h
    rw [ht] at h
    split at h <;> simp_all
    rename_i b
    cases b
    · exact .inl rfl
    · exact .inr rfl
theorem opens_string {P : Program} {t : TypeId} (ht : P.underlying t = some .string) (hc : P.cellsOf t = 1) : Opens P Kd.string t (fun s => s.size ≤ 9223372036854775807) := by
  refine ⟨hc, fun enc w base spare held fuel cs x h => ?_⟩
  cases fuel with
  | zero => simp [DataW.trod] at h
  | succ n =>
    unfold DataW.trod at h
    rw [ht] at h
    split at h <;> simp_all
    exact ⟨_, rfl, h.1⟩
theorem list_of {α : Type} {Q : Nat → α → Prop} : ∀ n, (∀ i, i < n → ∃ v, Q i v) → ∃ l : List α, l.length = n ∧ ∀ i v, l[i]? = some v → Q i v
  | 0, _ => ⟨[], rfl, fun i v h => by simp at h⟩
  | n + 1, h => by
    obtain ⟨l, hl, hq⟩ := list_of n (fun i hi => h i (by omega))
    obtain ⟨v, hv⟩ := h n (by omega)
    refine ⟨l ++ [v], by simp [hl], fun i u hu => ?_⟩
    by_cases hi : i < l.length
    · rw [List.getElem?_append_left hi] at hu
      exact hq i u hu
    · have hi2 : i = l.length := by
        have := (List.getElem?_eq_some_iff.1 hu).1
        rw [List.length_append, List.length_singleton] at this
        omega
      subst hi2
      have hu' : v = u := by simpa using hu
      subst hu'
      rw [hl]
      exact hv
theorem opens_slice {α : Type} {P : Program} {d : Kd α} {t e : TypeId} {G : α → Prop} (ht : P.underlying t = some (.slice e)) (hc : P.cellsOf t = 1) (O : Opens P d e G) :
    Opens P (Kd.slice e d) t (fun l => l.length ≤ 9223372036854775807 ∧ ∀ x, x ∈ l → G x) := by
  refine ⟨hc, fun enc w base spare held fuel cs x h => ?_⟩
  rcases DataW.trod_slice ht h with ⟨rfl, _⟩ | ⟨a, len, cap, elems, rest, n, _, rfl, _, hb, hl, hm, hlen, hel, _, _⟩
  · exact ⟨[], ⟨none, 0, rfl, Nat.le_refl _, Kd.C_nil d w⟩, by simp, fun x hx => by simp at hx⟩
  · have each : ∀ i, i < len → ∃ v : α, (∃ c, c.length = d.sz ∧ d.K w v c ∧ ∀ j u, c[j]? = some u → w.cell? (a.add (i * d.sz + j)) = some u) ∧ G v := by
      intro i hi
      have h1 := hel i hi
      have h2 : elems[i]? = some (elems[i]'(by omega)) := List.getElem?_eq_getElem (by omega)
      rw [h2, Option.bind_eq_some_iff] at h1
      obtain ⟨c, hcc, htr⟩ := h1
      obtain ⟨v, hK, hG⟩ := O.2 enc w base spare held n c _ htr
      obtain ⟨_, hcl, hcells⟩ := World.cells?_some hcc
      refine ⟨v, ⟨c, d.K_len hK, hK, fun j u hu => ?_⟩, hG⟩
      have hj : j < c.length := (List.getElem?_eq_some_iff.1 hu).1
      have := hcells j (by omega)
      rw [hu, add_twice, O.1] at this
      exact this
    obtain ⟨l, hll, hq⟩ := list_of len each
    refine ⟨l, ⟨some a, cap, by rw [hll], by omega, hll ▸ ?_⟩, by unfold maxLen at hm; omega, fun x hx => ?_⟩
    · refine ⟨hll, by unfold maxLen at hm; omega, fun hp => ⟨a, rfl, fun j p hj => ?_⟩⟩
      obtain ⟨c, h1, h2, h3⟩ := (hq j p hj).1
      exact ⟨c, h1, h2, h3⟩
    · obtain ⟨i, hi, rfl⟩ := List.mem_iff_getElem.mp hx
      exact (hq i _ (List.getElem?_eq_getElem hi)).2
end Go.Proofs.Ytcpljigliklgcaa.Q
end

section
namespace Go.Proofs.Ytcpljigliklgcaa.Q
open Go.RowKit Go.Proofs.YtcpljigliklgcaaW.PrintWords Go.Proofs.YtcpljigliklgcaaW.PrintLast Go.Proofs.YtcpljigliklgcaaW.PrintMore
attribute [local go_sem] max2_int min2_int max_two min_two max_three min_three max_four min_four   -- for this text's walks alone
set_option linter.unusedVariables false
set_option linter.unusedSimpArgs false
attribute [local go_sem] bin_leq bin_gtr bin_geq
def good125 (x : S125) : Prop := (fun s => s.size ≤ 9223372036854775807) x.f0 ∧ (fun n => (Lit.int .i64 n).wf = true) x.f1
set_option maxRecDepth 100000 in
theorem opens_125 : Opens Try.prog k125 125 good125 := by
  refine ⟨by kernel_rfl, fun enc w base spare held fuel cs x h => ?_⟩
  obtain ⟨xs, n, _, _, hcl, hxl, hf⟩ := DataW.trod_struct Try.underlying125 h
  have hcl2 : cs.length = 2 := hcl.trans (by kernel_rfl)
  obtain ⟨c0, c1, rfl⟩ : ∃ c0 c1, cs = [c0, c1] := by
    match cs, hcl2 with
    | [c0, c1], _ => exact ⟨c0, c1, rfl⟩
  have h0 := hf 0 _ rfl
  rw [List.getElem?_eq_getElem (show 0 < xs.length by rw [hxl]; decide)] at h0
  obtain ⟨v0, K0, G0⟩ := (opens_string Try.underlying9 (by kernel_rfl)).2 enc w base spare held n [c0] _ ((show DataW.trod enc Try.prog w base spare held n 9 [c0] = _ from (by first | exact h0 | (rw [show Try.prog.cellsOf 9 = 1 by kernel_rfl] at h0; exact h0))))
  have h1 := hf 1 _ rfl
  rw [List.getElem?_eq_getElem (show 1 < xs.length by rw [hxl]; decide)] at h1
  obtain ⟨v1, K1, G1⟩ := (opens_int (k := .i64) Try.underlying3 (by kernel_rfl)).2 enc w base spare held n [c1] _ ((show DataW.trod enc Try.prog w base spare held n 3 [c1] = _ from (by first | exact h1 | (rw [show Try.prog.cellsOf 3 = 1 by kernel_rfl] at h1; exact h1))))
  exact ⟨⟨v0, v1⟩, ⟨[c0], [c1], rfl, K0, K1⟩, ⟨G0, G1⟩⟩
end Go.Proofs.Ytcpljigliklgcaa.Q
end

section
namespace Go.Proofs.Ytcpljigliklgcaa.Q
open Go.RowKit Go.Proofs.YtcpljigliklgcaaW.PrintWords Go.Proofs.YtcpljigliklgcaaW.PrintLast Go.Proofs.YtcpljigliklgcaaW.PrintMore
attribute [local go_sem] max2_int min2_int max_two min_two max_three min_three max_four min_four   -- for this text's walks alone
set_option linter.unusedVariables false
set_option linter.unusedSimpArgs false
attribute [local go_sem] bin_leq bin_gtr bin_geq
def good209 (x : S209) : Prop := (fun l => l.length ≤ 9223372036854775807 ∧ ∀ x, x ∈ l → (fun n => (Lit.int .i64 n).wf = true) x) x.f0 ∧ (fun l => l.length ≤ 9223372036854775807 ∧ ∀ x, x ∈ l → good125 x) x.f1
set_option maxRecDepth 100000 in
theorem opens_209 : Opens Try.prog k209 209 good209 := by
  refine ⟨by kernel_rfl, fun enc w base spare held fuel cs x h => ?_⟩
  obtain ⟨xs, n, _, _, hcl, hxl, hf⟩ := DataW.trod_struct Try.underlying209 h
  have hcl2 : cs.length = 2 := hcl.trans (by kernel_rfl)
  obtain ⟨c0, c1, rfl⟩ : ∃ c0 c1, cs = [c0, c1] := by
    match cs, hcl2 with
    | [c0, c1], _ => exact ⟨c0, c1, rfl⟩
  have h0 := hf 0 _ rfl
  rw [List.getElem?_eq_getElem (show 0 < xs.length by rw [hxl]; decide)] at h0
  obtain ⟨v0, K0, G0⟩ := (opens_slice Try.underlying116 (by kernel_rfl) (opens_int (k := .i64) Try.underlying3 (by kernel_rfl))).2 enc w base spare held n [c0] _ ((show DataW.trod enc Try.prog w base spare held n 116 [c0] = _ from (by first | exact h0 | (rw [show Try.prog.cellsOf 116 = 1 by kernel_rfl] at h0; exact h0))))
  have h1 := hf 1 _ rfl
  rw [List.getElem?_eq_getElem (show 1 < xs.length by rw [hxl]; decide)] at h1
  obtain ⟨v1, K1, G1⟩ := (opens_slice Try.underlying22 (by kernel_rfl) opens_125).2 enc w base spare held n [c1] _ ((show DataW.trod enc Try.prog w base spare held n 22 [c1] = _ from (by first | exact h1 | (rw [show Try.prog.cellsOf 22 = 1 by kernel_rfl] at h1; exact h1))))
  exact ⟨⟨v0, v1⟩, ⟨[c0], [c1], rfl, K0, K1⟩, ⟨G0, G1⟩⟩
end Go.Proofs.Ytcpljigliklgcaa.Q
end

section
namespace Go.Proofs.Ytcpljigliklgcaa.Q
open Go.RowKit Go.Proofs.YtcpljigliklgcaaW.PrintWords Go.Proofs.YtcpljigliklgcaaW.PrintLast Go.Proofs.YtcpljigliklgcaaW.PrintMore
attribute [local go_sem] max2_int min2_int max_two min_two max_three min_three max_four min_four   -- for this text's walks alone
set_option linter.unusedVariables false
set_option linter.unusedSimpArgs false
attribute [local go_sem] bin_leq bin_gtr bin_geq
def good211 (x : S211) : Prop := (fun s => s.size ≤ 9223372036854775807) x.f0 ∧ (fun n => (Lit.int .i64 n).wf = true) x.f1 ∧ (fun n => (Lit.int .i64 n).wf = true) x.f2 ∧ (fun _ => True) x.f3
set_option maxRecDepth 100000 in
theorem opens_211 : Opens Try.prog k211 211 good211 := by
  refine ⟨by kernel_rfl, fun enc w base spare held fuel cs x h => ?_⟩
  obtain ⟨xs, n, _, _, hcl, hxl, hf⟩ := DataW.trod_struct Try.underlying211 h
  have hcl2 : cs.length = 4 := hcl.trans (by kernel_rfl)
  obtain ⟨c0, c1, c2, c3, rfl⟩ : ∃ c0 c1 c2 c3, cs = [c0, c1, c2, c3] := by
    match cs, hcl2 with
    | [c0, c1, c2, c3], _ => exact ⟨c0, c1, c2, c3, rfl⟩
  have h0 := hf 0 _ rfl
  rw [List.getElem?_eq_getElem (show 0 < xs.length by rw [hxl]; decide)] at h0
  obtain ⟨v0, K0, G0⟩ := (opens_string Try.underlying9 (by kernel_rfl)).2 enc w base spare held n [c0] _ ((show DataW.trod enc Try.prog w base spare held n 9 [c0] = _ from (by first | exact h0 | (rw [show Try.prog.cellsOf 9 = 1 by kernel_rfl] at h0; exact h0))))
  have h1 := hf 1 _ rfl
  rw [List.getElem?_eq_getElem (show 1 < xs.length by rw [hxl]; decide)] at h1
  obtain ⟨v1, K1, G1⟩ := (opens_int (k := .i64) Try.underlying3 (by kernel_rfl)).2 enc w base spare held n [c1] _ ((show DataW.trod enc Try.prog w base spare held n 3 [c1] = _ from (by first | exact h1 | (rw [show Try.prog.cellsOf 3 = 1 by kernel_rfl] at h1; exact h1))))
  have h2 := hf 2 _ rfl
  rw [List.getElem?_eq_getElem (show 2 < xs.length by rw [hxl]; decide)] at h2
  obtain ⟨v2, K2, G2⟩ := (opens_int (k := .i64) Try.underlying3 (by kernel_rfl)).2 enc w base spare held n [c2] _ ((show DataW.trod enc Try.prog w base spare held n 3 [c2] = _ from (by first | exact h2 | (rw [show Try.prog.cellsOf 3 = 1 by kernel_rfl] at h2; exact h2))))
  have h3 := hf 3 _ rfl
  rw [List.getElem?_eq_getElem (show 3 < xs.length by rw [hxl]; decide)] at h3
  obtain ⟨v3, K3, G3⟩ := (opens_bool Try.underlying4 (by kernel_rfl)).2 enc w base spare held n [c3] _ ((show DataW.trod enc Try.prog w base spare held n 4 [c3] = _ from (by first | exact h3 | (rw [show Try.prog.cellsOf 4 = 1 by kernel_rfl] at h3; exact h3))))
  exact ⟨⟨v0, v1, v2, v3⟩, ⟨[c0], [c1, c2, c3], rfl, K0, ⟨[c1], [c2, c3], rfl, K1, ⟨[c2], [c3], rfl, K2, K3⟩⟩⟩, ⟨G0, G1, G2, G3⟩⟩
end Go.Proofs.Ytcpljigliklgcaa.Q
end

section
namespace Go.Proofs.Ytcpljigliklgcaa.Q
open Go.RowKit Go.Proofs.YtcpljigliklgcaaW.PrintWords Go.Proofs.YtcpljigliklgcaaW.PrintLast Go.Proofs.YtcpljigliklgcaaW.PrintMore
attribute [local go_sem] max2_int min2_int max_two min_two max_three min_three max_four min_four   -- for this text's walks alone
set_option linter.unusedVariables false
set_option linter.unusedSimpArgs false
attribute [local go_sem] bin_leq bin_gtr bin_geq
def good57 (x : S57) : Prop := (fun l => l.length ≤ 9223372036854775807 ∧ ∀ x, x ∈ l → good209 x) x.f0 ∧ (fun l => l.length ≤ 9223372036854775807 ∧ ∀ x, x ∈ l → good211 x) x.f1
set_option maxRecDepth 100000 in
theorem opens_57 : Opens Try.prog k57 57 good57 := by
  refine ⟨by kernel_rfl, fun enc w base spare held fuel cs x h => ?_⟩
  obtain ⟨xs, n, _, _, hcl, hxl, hf⟩ := DataW.trod_struct Try.underlying57 h
  have hcl2 : cs.length = 2 := hcl.trans (by kernel_rfl)
  obtain ⟨c0, c1, rfl⟩ : ∃ c0 c1, cs = [c0, c1] := by
    match cs, hcl2 with
    | [c0, c1], _ => exact ⟨c0, c1, rfl⟩
  have h0 := hf 0 _ rfl
  rw [List.getElem?_eq_getElem (show 0 < xs.length by rw [hxl]; decide)] at h0
  obtain ⟨v0, K0, G0⟩ := (opens_slice Try.underlying54 (by kernel_rfl) opens_209).2 enc w base spare held n [c0] _ ((show DataW.trod enc Try.prog w base spare held n 54 [c0] = _ from (by first | exact h0 | (rw [show Try.prog.cellsOf 54 = 1 by kernel_rfl] at h0; exact h0))))
  have h1 := hf 1 _ rfl
  rw [List.getElem?_eq_getElem (show 1 < xs.length by rw [hxl]; decide)] at h1
  obtain ⟨v1, K1, G1⟩ := (opens_slice Try.underlying55 (by kernel_rfl) opens_211).2 enc w base spare held n [c1] _ ((show DataW.trod enc Try.prog w base spare held n 55 [c1] = _ from (by first | exact h1 | (rw [show Try.prog.cellsOf 55 = 1 by kernel_rfl] at h1; exact h1))))
  exact ⟨⟨v0, v1⟩, ⟨[c0], [c1], rfl, K0, K1⟩, ⟨G0, G1⟩⟩
end Go.Proofs.Ytcpljigliklgcaa.Q
end

section
namespace Go.Proofs.Ytcpljigliklgcaa.Q
open Go.RowKit Go.Proofs.YtcpljigliklgcaaW.PrintWords Go.Proofs.YtcpljigliklgcaaW.PrintLast Go.Proofs.YtcpljigliklgcaaW.PrintMore
attribute [local go_sem] max2_int min2_int max_two min_two max_three min_three max_four min_four   -- for this text's walks alone
set_option linter.unusedVariables false
set_option linter.unusedSimpArgs false
attribute [local go_sem] bin_leq bin_gtr bin_geq
def laws_FnExactGrowsFrom.Pure : Prop := ∀ (l0_0 : List (S209)) (l0_1 : List (S211)) (l1_0 : List (S209)) (l1_1 : List (S211)), good57 (⟨l0_0, l0_1⟩ : S57) → good57 (⟨l1_0, l1_1⟩ : S57) → ∃ k, laws_FnExactGrowsFrom.f k l0_0 l0_1 l1_0 l1_1 = some true
theorem laws_FnExactGrowsFrom.walk (P : laws_FnExactGrowsFrom.Pure) (A0_0 : Option Addr) (c0_0 : Nat) (l0_0 : List (S209)) (A0_1 : Option Addr) (c0_1 : Nat) (l0_1 : List (S211)) (A1_0 : Option Addr) (c1_0 : Nat) (l1_0 : List (S209)) (A1_1 : Option Addr) (c1_1 : Nat) (l1_1 : List (S211)) (w : World) (w0 : good57 (⟨l0_0, l0_1⟩ : S57)) (w1 : good57 (⟨l1_0, l1_1⟩ : S57)) (hr0_0 : Kd.C k209 w A0_0 l0_0.length l0_0) (hc0_0 : l0_0.length ≤ c0_0) (hr0_1 : Kd.C k211 w A0_1 l0_1.length l0_1) (hc0_1 : l0_1.length ≤ c0_1) (hr1_0 : Kd.C k209 w A1_0 l1_0.length l1_0) (hc1_0 : l1_0.length ≤ c1_0) (hr1_1 : Kd.C k211 w A1_1 l1_1.length l1_1) (hc1_1 : l1_1.length ≤ c1_1) :
    Calls Try.prog 10 #[.agg #[.slice A0_0 l0_0.length c0_0, .slice A0_1 l0_1.length c0_1], .agg #[.slice A1_0 l1_0.length c1_0, .slice A1_1 l1_1.length c1_1]] w fun e w' => e = .returned (.bool true) ∧ Below w.heap.size w w' := by
  obtain ⟨k, hk⟩ := P l0_0 l0_1 l1_0 l1_1 w0 w1
  exact (laws_FnExactGrowsFrom.calls k A0_0 c0_0 l0_0 A0_1 c0_1 l0_1 A1_0 c1_0 l1_0 A1_1 c1_1 l1_1 w hr0_0 hc0_0 hr0_1 hc0_1 hr1_0 hc1_0 hr1_1 hc1_1 hk).mono fun e w' h => ⟨h.1, h.2⟩
end Go.Proofs.Ytcpljigliklgcaa.Q
end

section
namespace Go.Proofs.Ytcpljigliklgcaa.Q
open Go.RowKit Go.Proofs.YtcpljigliklgcaaW.PrintWords Go.Proofs.YtcpljigliklgcaaW.PrintLast
theorem isValue_f (n : Int) : impl_isValue.f n = some (inB n (-1000000) 1000000) := by
  unfold impl_isValue.f impl_within.f inB
  by_cases h : (-1000000 : Int) ≤ n <;> simp [h]
theorem mapOK_l0 (l : List S51) (hlen : l.length ≤ 4611686018427387904) (d : Nat) : ∀ i : Nat, i + d = l.length → (∀ j, j < i → entAt l j = true) → Ev (fun k => impl_MapOK.l0 k l l (l.length : Int) (i : Int)) (mapB l) := by
  induction d with
  | zero =>
    intro i hi hp
    have e : mapB l = decide ((l.length : Int) ≤ 12) := by
      unfold mapB
      rw [allR_true (fun j hj => hp j (by omega)), Bool.and_true]
      by_cases h : l.length ≤ 12
      · rw [decide_eq_true h, decide_eq_true (by omega)]
      · rw [decide_eq_false h, decide_eq_false (by omega)]
    rw [e]
    exact Ev.step (f := fun _ => some (decide ((l.length : Int) ≤ 12))) (fun k => by simp only [impl_MapOK.l0]; rw [if_neg (by omega)]) (Ev.now _)
  | succ d ih =>
    intro i hi hp
    have hw : wrap64 ((i : Int) + 1) = ((i + 1 : Nat) : Int) := by unfold wrap64; omega
    have hbad : entAt l i = false → mapB l = false := fun h => by
      unfold mapB
      rw [allR_false (j := i) (by omega) h, Bool.and_false]
    have hgo : entAt l i = true → Ev (fun k => impl_MapOK.l0 k l l (l.length : Int) ((i + 1 : Nat) : Int)) (mapB l) := fun h => ih (i + 1) (by omega) (fun j hj => by
      by_cases e : j = i
      · rw [e]; exact h
      · exact hp j (by omega))
    have E : entAt l i = (nameB (rd_T51 l (i : Int)).f0 && inB (rd_T51 l (i : Int)).f1 (-1000000) 1000000 && (i == 0 || sblt (rd_T51 l ((i : Int) - 1)).f0 (rd_T51 l (i : Int)).f0)) := rfl
    have c1 : (i : Int) < (l.length : Int) := by omega
    have c2 : (0 : Int) ≤ (i : Int) := by omega
    cases hN : nameB (rd_T51 l (i : Int)).f0 with
    | false =>
      rw [hbad (by rw [E, hN]; rfl)]
      refine Ev.step (f := fun _ => some false) (fun k => ?_) (Ev.now _)
      simp only [impl_MapOK.l0, impl_NameOK.f, hN, if_pos c1, if_pos c2, Option.bind_some, Bool.false_eq_true, if_false]
    | true =>
      cases hV : inB (rd_T51 l (i : Int)).f1 (-1000000) 1000000 with
      | false =>
        rw [hbad (by rw [E, hN, hV]; rfl)]
        refine Ev.step (f := fun _ => some false) (fun k => ?_) (Ev.now _)
        simp only [impl_MapOK.l0, impl_NameOK.f, isValue_f, hN, hV, if_pos c1, if_pos c2, Option.bind_some, Bool.false_eq_true, if_false, if_true]
      | true =>
        by_cases hz : i = 0
        · have hg := hgo (by rw [E, hN, hV]; simp [hz])
          refine Ev.step (fun k => ?_) hg
          have c3 : ¬ ((i : Int) > 0) := by omega
          simp only [impl_MapOK.l0, impl_NameOK.f, isValue_f, hN, hV, if_pos c1, if_pos c2, if_neg c3, Option.bind_some, if_true, hw]
        · have c3 : (i : Int) > 0 := by omega
          have hw2 : wrap64 ((i : Int) - 1) = (i : Int) - 1 := by unfold wrap64; omega
          have c4 : (0 : Int) ≤ (i : Int) - 1 := by omega
          have c5 : (i : Int) - 1 < (l.length : Int) := by omega
          have z : (i == 0) = false := by simp [hz]
          cases hS : sblt (rd_T51 l ((i : Int) - 1)).f0 (rd_T51 l (i : Int)).f0 with
          | false =>
            rw [hbad (by rw [E, hN, hV, hS, z]; rfl)]
            have hS1 : Op.bytesLess (rd_T51 l ((i : Int) - 1)).f0.toList (rd_T51 l (i : Int)).f0.toList = false := hS
            refine Ev.step (f := fun _ => some false) (fun k => ?_) (Ev.now _)
            simp only [impl_MapOK.l0, impl_NameOK.f, isValue_f, hN, hV, hS1, hw2, if_pos c1, if_pos c2, if_pos c3, if_pos c4, if_pos c5, Option.bind_some, if_true, Bool.false_eq_true, if_false]
          | true =>
            have hg := hgo (by rw [E, hN, hV, hS]; simp)
            have hS1 : Op.bytesLess (rd_T51 l ((i : Int) - 1)).f0.toList (rd_T51 l (i : Int)).f0.toList = true := hS
            refine Ev.step (fun k => ?_) hg
            simp only [impl_MapOK.l0, impl_NameOK.f, isValue_f, hN, hV, hS1, hw2, if_pos c1, if_pos c2, if_pos c3, if_pos c4, if_pos c5, Option.bind_some, if_true, hw]
theorem mapOK_ev (l : List S51) (hlen : l.length ≤ 4611686018427387904) : Ev (fun k => impl_MapOK.f k l) (mapB l) := mapOK_l0 l hlen l.length 0 (by omega) (fun j hj => absurd hj (Nat.not_lt_zero _))
end Go.Proofs.Ytcpljigliklgcaa.Q
end

section
namespace Go.Proofs.Ytcpljigliklgcaa.Q
open Go.RowKit Go.Proofs.YtcpljigliklgcaaW.PrintWords Go.Proofs.YtcpljigliklgcaaW.PrintLast
theorem l00Word_ev (s : ByteArray) : Ev (fun k => spec_l00Word.f k s) (nameB s) := Ev.of (fun k => spec_l00Word.mono s k) (l00Word_f s)
theorem l01In_is (a b c : Int) : spec_l01In.f a b c = some (inB a b c) := by
  unfold spec_l01In.f inB
  by_cases h : b ≤ a <;> simp [h]
end Go.Proofs.Ytcpljigliklgcaa.Q
end

section
namespace Go.Proofs.Ytcpljigliklgcaa.Q
open Go.RowKit Go.Proofs.YtcpljigliklgcaaW.PrintWords Go.Proofs.YtcpljigliklgcaaW.PrintLast
set_option linter.unusedVariables false
set_option linter.unusedSimpArgs false
theorem rdCommit {l : List S118} {i : Nat} (h : i < l.length) : rd_T118 l (i : Int) = l[i] := by
  simp [rd_T118, List.getD_eq_getElem?_getD, List.getElem?_eq_getElem h]
def commitB (n : Nat) (ps : List Int) (m : List S51) : Bool :=
  mapB m && match ps with
  | [] => n == 0
  | [a] => n != 0 && inB a 1 n
  | [a, b] => n != 0 && (inB a 1 n && (inB b 1 n && b != a))
  | _ => false
def storeB (l : List S118) : Bool := inB l.length 1 60 && allR (fun i => commitB i (rd_T118 l (i : Int)).f0 (rd_T118 l (i : Int)).f1) l.length
theorem nat_eq0 (n : Nat) : ((n : Int) == 0) = (n == 0) := by
  cases n with
  | zero => rfl
  | succ n =>
    have h1 : (((n + 1 : Nat) : Int) == 0) = false := by rw [beq_eq_false_iff_ne]; omega
    rw [h1]; rfl
theorem l03Commit_ev (st : List S118) (ps : List Int) (m : List S51) : Ev (fun k => spec_l03Commit.f k st ps m) (commitB st.length ps m) := by
  unfold commitB
  have w0 : wrap64 (0 + 1) = 1 := by unfold wrap64; omega
  have w1 : wrap64 (1 + 1) = 2 := by unfold wrap64; omega
  cases hm : mapB m with
  | false =>
    refine Ev.at_ (c := 1) (fun k => ?_)
    simp only [spec_l03Commit.f, spec_l01OK.f, Option.bind_some, hm, Bool.false_eq_true, if_false, spec_l03Commit.j0, if_true, Bool.false_and]
  | true =>
    match ps with
    | [] =>
      refine Ev.at_ (c := 2) (fun k => ?_)
      simp only [spec_l03Commit.f, spec_l01OK.f, Option.bind_some, hm, if_true, nat_eq0, List.length_nil, spec_l03Commit.j0, spec_l03Commit.l0]
      cases st.length == 0 <;> simp
    | [a] =>
      refine Ev.at_ (c := 4) (fun k => ?_)
      have r0 : rd [a] 0 = a := rfl
      simp only [spec_l03Commit.f, spec_l01OK.f, Option.bind_some, hm, if_true, nat_eq0, List.length_cons, List.length_nil, spec_l03Commit.j0, spec_l03Commit.l0, l01In_is, r0, w0, bne]
      cases st.length == 0 <;> cases inB a 1 st.length <;> simp
    | [a, b] =>
      refine Ev.at_ (c := 5) (fun k => ?_)
      have r0 : rd [a, b] 0 = a := rfl
      have r1 : rd [a, b] 1 = b := rfl
      simp only [spec_l03Commit.f, spec_l01OK.f, Option.bind_some, hm, if_true, nat_eq0, List.length_cons, List.length_nil, spec_l03Commit.j0, spec_l03Commit.l0, l01In_is, r0, r1, w0, w1, bne]
      by_cases hab : b = a
      · cases st.length == 0 <;> cases inB a 1 st.length <;> cases inB b 1 st.length <;> simp [hab]
      · cases st.length == 0 <;> cases inB a 1 st.length <;> cases inB b 1 st.length <;> simp [hab]
    | a :: b :: c :: r =>
      refine Ev.at_ (c := 1) (fun k => ?_)
      have h3 : (((a :: b :: c :: r).length : Nat) : Int) > 2 := by simp only [List.length_cons]; omega
      simp only [spec_l03Commit.f, spec_l01OK.f, Option.bind_some, hm, if_true, h3, spec_l03Commit.j0, Bool.and_false]
theorem isAt_ev (n : Nat) (hn : n ≤ 1048576) (ps : List Int) (m : List S51) (hm : m.length ≤ 1048576) : Ev (fun k => impl_Commit_isAt.f k ps m ((n : Int) + 1)) (commitB n ps m) := by
  unfold impl_Commit_isAt.f commitB
  refine Ev.bind (mapOK_ev m (by omega)) ?_
  have e1 : ((n : Int) + 1 == 1) = (n == 0) := by
    cases n with
    | zero => rfl
    | succ n =>
      have h1 : (((n + 1 : Nat) : Int) + 1 == 1) = false := by rw [beq_eq_false_iff_ne]; omega
      rw [h1]; rfl
  have l1 : (-9223372036854775807 : Int) ≤ (n : Int) + 1 := by omega
  have l2 : (n : Int) + 1 ≤ 9223372036854775807 := by omega
  have l3 : (n : Int) + 1 - 1 = (n : Int) := by omega
  cases mapB m with
  | false => simp only [Bool.false_eq_true, if_false, Bool.false_and]; exact Ev.now _
  | true =>
    simp only [if_true, Bool.true_and, areAllint_isAt.f, l1, l2, l3, e1]
    match ps with
    | [] =>
      refine Ev.at_ (c := 0) (fun k => ?_)
      cases hz : n == 0 <;> simp [hz]
    | [a] =>
      refine Ev.at_ (c := 0) (fun k => ?_)
      cases hz : n == 0 <;> cases h1 : inB a 1 n <;> simp [hz, h1, bne]
    | [a, b] =>
      refine Ev.at_ (c := 0) (fun k => ?_)
      have r0 : rd [a, b] 0 = a := rfl
      have r1 : rd [a, b] 1 = b := rfl
      by_cases hab : a = b
      · subst hab
        cases hz : n == 0 <;> simp [hz, r0, r1, bne]
      · have hba : ¬ b = a := fun h => hab h.symm
        cases hz : n == 0 <;> cases h1 : inB a 1 n <;> cases h2 : inB b 1 n <;> simp [hz, r0, r1, hab, hba, h1, h2, bne]
    | a :: b :: c :: r =>
      have h3 : (((a :: b :: c :: r).length : Nat) : Int) > 2 := by simp only [List.length_cons]; omega
      simp only [h3, if_true]
      exact Ev.now _
theorem l03OK_ev (l : List S118) : Ev (fun k => spec_l03OK.f k l) (storeB l) := by
  unfold spec_l03OK.f storeB
  simp only [l01In_is, Option.bind_some]
  cases hn : inB l.length 1 60 with
  | false => simp only [Bool.false_eq_true, if_false, Bool.false_and]; exact Ev.now _
  | true =>
    have h60 : l.length ≤ 60 := by
      unfold inB at hn
      simp only [Bool.and_eq_true, decide_eq_true_eq] at hn
      omega
    simp only [if_true, Bool.true_and]
    have h := ev_all_loop2 (L := fun k i => spec_l03OK.l0 k l i) (n := l.length) (p := fun i => commitB i (rd_T118 l (i : Int)).f0 (rd_T118 l (i : Int)).f1) (fin := true) 0 (fun i _ hi _ hp r hr => by
      have c1 : (i : Int) < (l.length : Int) := by omega
      have c2 : (i : Int) ≤ (l.length : Int) := by omega
      have hc := l03Commit_ev (l.take i) (rd_T118 l (i : Int)).f0 (rd_T118 l (i : Int)).f1
      rw [List.length_take, Nat.min_eq_left (by omega), hp] at hc
      refine Ev.succ (g := fun k => spec_l03OK.l0 k l (i : Int)) ?_
      simp only [spec_l03OK.l0, c1, c2, Int.natCast_nonneg, if_true, Int.toNat_natCast, wrap_i (show i < 4611686018427387904 by omega)]
      refine Ev.bind hc ?_
      simp only [if_true]
      exact hr) (fun i _ hi _ hp => by
      have c1 : (i : Int) < (l.length : Int) := by omega
      have c2 : (i : Int) ≤ (l.length : Int) := by omega
      have hc := l03Commit_ev (l.take i) (rd_T118 l (i : Int)).f0 (rd_T118 l (i : Int)).f1
      rw [List.length_take, Nat.min_eq_left (by omega), hp] at hc
      refine Ev.succ (g := fun k => spec_l03OK.l0 k l (i : Int)) ?_
      simp only [spec_l03OK.l0, c1, c2, Int.natCast_nonneg, if_true, Int.toNat_natCast]
      refine Ev.bind hc ?_
      simp only [Bool.false_eq_true, if_false]
      exact Ev.now _) (Ev.at_ (c := 1) (fun k => by
      simp only [spec_l03OK.l0]
      rw [if_neg (by omega)])) (Nat.zero_le _) (fun j hj => absurd hj (Nat.not_lt_zero _))
    rw [Bool.and_true] at h
    exact h
theorem areCommits_ev (l : List S118) (hl : l.length ≤ 1048576) (hf : ∀ x, x ∈ l → x.f1.length ≤ 1048576) : Ev (fun k => impl_areCommits.f k l) (allR (fun i => commitB i (rd_T118 l (i : Int)).f0 (rd_T118 l (i : Int)).f1) l.length && decide ((l.length : Int) ≤ 60)) := by
  exact ev_all_loop2 (L := fun k i => impl_areCommits.l0 k l l (l.length : Int) i) (n := l.length) (p := fun i => commitB i (rd_T118 l (i : Int)).f0 (rd_T118 l (i : Int)).f1) 0 (fun i _ hi _ hp r hr => by
    have c1 : (i : Int) < (l.length : Int) := by omega
    have w := wrap_2 (i := (i : Int)) (by omega) (by omega)
    have hc := isAt_ev i (by omega) (rd_T118 l (i : Int)).f0 (rd_T118 l (i : Int)).f1 (by rw [rdCommit hi]; exact hf _ (List.getElem_mem hi))
    rw [hp] at hc
    refine Ev.succ (g := fun k => impl_areCommits.l0 k l l (l.length : Int) (i : Int)) ?_
    simp only [impl_areCommits.l0, c1, Int.natCast_nonneg, if_true, w]
    refine Ev.bind hc ?_
    simp only [if_true]
    exact hr) (fun i _ hi _ hp => by
    have c1 : (i : Int) < (l.length : Int) := by omega
    have w := wrap_2 (i := (i : Int)) (by omega) (by omega)
    have hc := isAt_ev i (by omega) (rd_T118 l (i : Int)).f0 (rd_T118 l (i : Int)).f1 (by rw [rdCommit hi]; exact hf _ (List.getElem_mem hi))
    rw [hp] at hc
    refine Ev.succ (g := fun k => impl_areCommits.l0 k l l (l.length : Int) (i : Int)) ?_
    simp only [impl_areCommits.l0, c1, Int.natCast_nonneg, if_true, w]
    refine Ev.bind hc ?_
    simp only [Bool.false_eq_true, if_false]
    exact Ev.now _) (Ev.at_ (c := 1) (fun k => by
    simp only [impl_areCommits.l0]
    rw [if_neg (by omega)])) (Nat.zero_le _) (fun j hj => absurd hj (Nat.not_lt_zero _))
theorem storeOK_ev (l : List S118) (hl : l.length ≤ 1048576) (hf : ∀ x, x ∈ l → x.f1.length ≤ 1048576) : Ev (fun k => impl_StoreOK.f k l) (storeB l) := by
  unfold impl_StoreOK.f storeB
  by_cases h0 : (l.length : Int) > 0
  · have hi : inB l.length 1 60 = decide ((l.length : Int) ≤ 60) := by
      unfold inB
      rw [decide_eq_true (by omega), Bool.true_and]
    simp only [h0, if_true, impl_Commit_243.f, Option.bind_some]
    by_cases h4 : (l.length : Int) ≤ 4096
    · simp only [h4, decide_true, if_true]
      rw [hi, Bool.and_comm]
      exact Ev.bind (areCommits_ev l hl hf) (Ev.now _)
    · simp only [h4, decide_false, Bool.false_eq_true, if_false]
      rw [hi, decide_eq_false (by omega), Bool.false_and]
      exact Ev.now _
  · have hi : inB l.length 1 60 = false := by
      unfold inB
      rw [decide_eq_false (by omega), Bool.false_and]
    simp only [h0, if_false, hi, Bool.false_and]
    exact Ev.now _
end Go.Proofs.Ytcpljigliklgcaa.Q
end

section
namespace Go.Proofs.Ytcpljigliklgcaa.Q
open Go.RowKit Go.Proofs.YtcpljigliklgcaaW.PrintWords Go.Proofs.YtcpljigliklgcaaW.PrintLast
set_option linter.unusedVariables false
set_option linter.unusedSimpArgs false
theorem eqCommits_is {a b : List S118} (hf : ∀ x, x ∈ a → x.f0.length ≤ 1048576 ∧ x.f1.length ≤ 1048576) : eqCommits.f a b = some (eqL comB a b) := by
  unfold eqCommits.f
  rw [if_pos]
  rw [List.all_eq_true]
  intro x hx
  unfold fewC
  rw [decide_eq_true (hf x hx).1, decide_eq_true (hf x hx).2]
  rfl
theorem l03Same_is (a b : List S118) (ha : a.length ≤ 1048576) (hf : ∀ x, x ∈ a → x.f0.length ≤ 1048576 ∧ x.f1.length ≤ 1048576) : Ev (fun k => spec_l03Same.f k a b) (eqL comB a b) := by
  obtain ⟨r, hr, hi⟩ := l03Same_ev a b ha hf
  obtain rfl : r = eqL comB a b := bool_eq_of_iff hi (eqL_iff comB_iff a b)
  exact hr
end Go.Proofs.Ytcpljigliklgcaa.Q
end

section
namespace Go.Proofs.Ytcpljigliklgcaa.Q
open Go.RowKit Go.Proofs.YtcpljigliklgcaaW.PrintWords Go.Proofs.YtcpljigliklgcaaW.PrintLast
set_option linter.unusedVariables false
def cvEntry (x : S125) : S51 := ⟨x.f0, x.f1⟩
theorem toEntryS_ev (l : List S125) (h : l.length ≤ 1048576) : Ev (fun k => laws_toEntryS.f k l) (l.map cvEntry) := by
  refine Ev.congr (f := fun k => laws_toEntryS.l0 k l (List.replicate l.length z51) 0) (fun k => ?_) ?_
  · unfold laws_toEntryS.f
    rw [if_pos (by omega), if_pos (by omega)]
    rfl
  · exact ev_map_loop (L := laws_toEntryS.l0) (g := fun _ x => some (cvEntry x)) (z := z125) (fun _ _ _ _ => rfl) l (by omega) (fun x _ => Ev.now _) _ (by simp)
theorem eqEntry_refl (x : S51) : laws_eqEntry.f x.f0 x.f1 x.f0 x.f1 = some true := by
  unfold laws_eqEntry.f
  simp
theorem eqEntryS_ev (l : List S51) (h : l.length ≤ 1048576) : Ev (fun k => laws_eqEntryS.f k l l) true := by
  refine Ev.congr (f := fun k => laws_eqEntryS.l0 k l l 0) (fun k => ?_) ?_
  · unfold laws_eqEntryS.f
    rw [if_pos rfl]
  · exact ev_refl_loop (L := laws_eqEntryS.l0) (g := fun _ x y => laws_eqEntry.f x.f0 x.f1 y.f0 y.f1) (z := z51) (fun _ _ _ _ => rfl) l (by omega) (fun x _ => Ev.congr (fun _ => eqEntry_refl x) (Ev.now _))
theorem szEntryS_ev (l : List S125) (hl : l.length ≤ 9223372036854775807) (hg : ∀ x, x ∈ l → good125 x) (left : Int) (h0 : 0 ≤ left) (h1 : left ≤ 1048576) :
    ∃ r, Ev (fun k => laws_szEntryS.f k l left) r ∧ r ≤ left ∧ (0 ≤ r → l.length ≤ 1048576) := by
  have hw : wrap64 (left - (l.length : Int)) = left - (l.length : Int) := by unfold wrap64; omega
  by_cases hn : left - (l.length : Int) < 0
  · refine ⟨-1, Ev.congr (f := fun _ => some (-1)) (fun k => ?_) (Ev.now _), by omega, by omega⟩
    unfold laws_szEntryS.f
    rw [hw, if_pos hn]
  · obtain ⟨r, hr, hrl⟩ := ev_sz_loop (L := laws_szEntryS.l0) (g := fun _ x left => laws_szEntry.f x.f0 x.f1 left) (z := z125) (fun _ _ _ _ => rfl) l (by omega) (fun x hx left h0 h1 => by
      have hsz : x.f0.size ≤ 9223372036854775807 := (hg x hx).1
      have hw2 : wrap64 (left - (x.f0.size : Int)) = left - (x.f0.size : Int) := by unfold wrap64; omega
      by_cases h2 : left - (x.f0.size : Int) < 0
      · refine ⟨-1, Ev.congr (f := fun _ => some (-1)) (fun k => ?_) (Ev.now _), by omega⟩
        unfold laws_szEntry.f
        rw [hw2, if_pos h2]
      · refine ⟨left - (x.f0.size : Int), Ev.congr (f := fun _ => some (left - (x.f0.size : Int))) (fun k => ?_) (Ev.now _), by omega⟩
        unfold laws_szEntry.f
        rw [hw2, if_neg h2]) (left - (l.length : Int)) (by omega) (by omega)
    refine ⟨r, Ev.congr (f := fun k => laws_szEntryS.l0 k l (left - (l.length : Int)) 0) (fun k => ?_) hr, by omega, by omega⟩
    unfold laws_szEntryS.f
    rw [hw, if_neg hn]
end Go.Proofs.Ytcpljigliklgcaa.Q
end
