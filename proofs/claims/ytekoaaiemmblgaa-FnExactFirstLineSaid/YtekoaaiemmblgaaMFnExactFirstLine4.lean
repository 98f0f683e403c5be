/- Parts of the proof of the law FnExactFirstLine, joined into one text. -/
import Derived.Test.YtekoaaiemmblgaaMFnExactFirstLine3
section
namespace Go.Proofs.Ytekoaaiemmblgaa.Q
open Go.RowKit Go.Proofs.YtekoaaiemmblgaaW.PrintWords Go.Proofs.YtekoaaiemmblgaaW.PrintLast
set_option linter.unusedVariables false
set_option linter.unusedSimpArgs false
theorem toIntS_ev (l : List Int) (h : l.length ≤ 1048576) : Ev (fun k => laws_toIntS.f k l) l := by
  refine Ev.congr (f := fun k => laws_toIntS.l0 k l (List.replicate l.length 0) 0) (fun k => ?_) ?_
  · unfold laws_toIntS.f
    rw [if_pos (by omega), if_pos (by omega)]
    rfl
  · have h2 := ev_map_loop (L := laws_toIntS.l0) (g := fun _ x => some x) (cv := fun x => x) (z := (0 : Int)) (fun _ _ _ _ => rfl) l (by omega) (fun x _ => Ev.now _) (List.replicate l.length 0) (by simp)
    simpa using h2
theorem eqIntS_ev (l : List Int) (hl : l.length ≤ 1048576) : Ev (fun k => laws_eqIntS.f k l l) true := by
  obtain ⟨b, hb, h⟩ := ev_same_loop (L := fun k i => laws_eqIntS.l0 k l l i) (xs := l) (ys := l) rfl (fun i h1 h2 e k => by
    have c1 : (i : Int) < (l.length : Int) := by omega
    simp only [laws_eqIntS.l0, c1, Int.natCast_nonneg, if_true, wrap_i (show i < 4611686018427387904 by omega)]) (fun i h1 h2 e k => absurd rfl e) (fun k => by
    simp only [laws_eqIntS.l0]
    rw [if_neg (by omega)])
  obtain rfl : b = true := h.mpr rfl
  exact Ev.congr (f := fun k => laws_eqIntS.l0 k l l 0) (fun k => by unfold laws_eqIntS.f; rw [if_pos rfl]) hb
theorem szIntS_ev (l : List Int) (hl : l.length ≤ 9223372036854775807) (left : Int) (h0 : 0 ≤ left) (h1 : left ≤ 1048576) :
    ∃ r, laws_szIntS.f l left = some r ∧ r ≤ left ∧ (0 ≤ r → l.length ≤ 1048576) := by
  have hw : wrap64 (left - (l.length : Int)) = left - (l.length : Int) := by unfold wrap64; omega
  unfold laws_szIntS.f
  rw [hw]
  by_cases hn : left - (l.length : Int) < 0
  · exact ⟨-1, by rw [if_pos hn], by omega, by omega⟩
  · exact ⟨left - (l.length : Int), by rw [if_neg hn], by omega, by omega⟩
def cvCommit (x : S75) : S78 := ⟨x.f0, x.f1.map cvEntry⟩
def fitC (x : S75) : Prop := x.f0.length ≤ 1048576 ∧ x.f1.length ≤ 1048576
theorem szCommit_ev (x : S75) (g : good75 x) (left : Int) (h0 : 0 ≤ left) (h1 : left ≤ 1048576) : ∃ r, Ev (fun k => laws_szCommit.f k x.f0 x.f1 left) r ∧ r ≤ left ∧ (0 ≤ r → fitC x) := by
  unfold laws_szCommit.f
  obtain ⟨r, hr, hrl, hrs⟩ := szIntS_ev x.f0 g.1.1 left h0 h1
  simp only [hr, Option.bind_some]
  by_cases hn : r < 0
  · exact ⟨-1, by simp only [hn, if_true]; exact Ev.now _, by omega, by omega⟩
  · obtain ⟨r', hr', hrl', hrs'⟩ := szEntryS_ev x.f1 g.2.1 g.2.2 r (by omega) (by omega)
    by_cases hn' : r' < 0
    · exact ⟨-1, by simp only [hn, if_false]; refine Ev.bind hr' ?_; simp only [hn', if_true]; exact Ev.now _, by omega, by omega⟩
    · exact ⟨r', by simp only [hn, if_false]; refine Ev.bind hr' ?_; simp only [hn', if_false]; exact Ev.now _, by omega, fun h => ⟨hrs (by omega), hrs' h⟩⟩
theorem ev_sz_loop2 {α : Type} {L : Nat → List α → Int → Int → Option Int} {g : Nat → α → Int → Option Int} {z : α} {P : α → Prop}
    (step : ∀ k xs left i, L (k + 1) xs left i = if i < (xs.length : Int) then (if 0 ≤ i then ((g k (xs.getD i.toNat z) left).bind fun t => (if t < 0 then some (-1) else L k xs t (wrap64 (i + 1)))) else none) else some left)
    (xs : List α) (hlen : xs.length ≤ 4611686018427387904) (hg : ∀ x, x ∈ xs → ∀ left : Int, 0 ≤ left → left ≤ 1048576 → ∃ r, Ev (fun k => g k x left) r ∧ r ≤ left ∧ (0 ≤ r → P x)) (left : Int) (h0 : 0 ≤ left) (h1 : left ≤ 1048576) :
    ∃ r, Ev (fun k => L k xs left 0) r ∧ r ≤ left ∧ (0 ≤ r → ∀ x, x ∈ xs → P x) := by
  have key : ∀ d (i : Nat) (left : Int), i + d = xs.length → 0 ≤ left → left ≤ 1048576 → ∃ r, Ev (fun k => L k xs left (i : Int)) r ∧ r ≤ left ∧ (0 ≤ r → ∀ x, x ∈ xs.drop i → P x) := by
    intro d
    induction d with
    | zero =>
      intro i left hi h0 h1
      refine ⟨left, Ev.step (f := fun _ => some left) (fun k => by rw [step, if_neg (by omega)]) (Ev.now left), by omega, fun _ x hx => ?_⟩
      rw [List.drop_eq_nil_of_le (by omega)] at hx
      cases hx
    | succ d ih =>
      intro i left hi h0 h1
      have hl : i < xs.length := by omega
      have hw : wrap64 ((i : Int) + 1) = ((i + 1 : Nat) : Int) := by unfold wrap64; omega
      have hx : xs.getD ((i : Int).toNat) z = xs[i] := by simp [List.getD_eq_getElem?_getD, List.getElem?_eq_getElem hl]
      obtain ⟨t, ht, htl, hP⟩ := hg _ (List.getElem_mem hl) left h0 h1
      have hstep : ∀ k, L (k + 1) xs left (i : Int) = (g k xs[i] left).bind fun t => if t < 0 then some (-1) else L k xs t ((i + 1 : Nat) : Int) := fun k => by rw [step, if_pos (by omega), if_pos (by omega), hx, hw]
      by_cases hn : t < 0
      · refine ⟨-1, Ev.step hstep (Ev.bind ht ?_), by omega, by omega⟩
        simp only [hn, if_true]
        exact Ev.now _
      · obtain ⟨r, hr, hrl, hrP⟩ := ih (i + 1) t (by omega) (by omega) (by omega)
        refine ⟨r, Ev.step hstep (Ev.bind ht ?_), by omega, fun h x hx => ?_⟩
        · simp only [hn, if_false]
          exact hr
        · rw [List.drop_eq_getElem_cons hl] at hx
          rcases List.mem_cons.mp hx with rfl | hx
          · exact hP (by omega)
          · exact hrP h x hx
  have h := key xs.length 0 left (by omega) h0 h1
  simpa using h
theorem szCommitS_ev (l : List S75) (hl : l.length ≤ 9223372036854775807) (hg : ∀ x, x ∈ l → good75 x) (left : Int) (h0 : 0 ≤ left) (h1 : left ≤ 1048576) :
    ∃ r, Ev (fun k => laws_szCommitS.f k l left) r ∧ r ≤ left ∧ (0 ≤ r → l.length ≤ 1048576 ∧ ∀ x, x ∈ l → fitC x) := by
  have hw : wrap64 (left - (l.length : Int)) = left - (l.length : Int) := by unfold wrap64; omega
  by_cases hn : left - (l.length : Int) < 0
  · refine ⟨-1, Ev.congr (f := fun _ => some (-1)) (fun k => ?_) (Ev.now _), by omega, by omega⟩
    unfold laws_szCommitS.f
    rw [hw, if_pos hn]
  · obtain ⟨r, hr, hrl, hrP⟩ := ev_sz_loop2 (L := laws_szCommitS.l0) (g := fun k x left => laws_szCommit.f k x.f0 x.f1 left) (z := z75) (P := fitC) (fun _ _ _ _ => rfl) l (by omega) (fun x hx left h0 h1 => szCommit_ev x (hg x hx) left h0 h1) (left - (l.length : Int)) (by omega) (by omega)
    refine ⟨r, Ev.congr (f := fun k => laws_szCommitS.l0 k l (left - (l.length : Int)) 0) (fun k => ?_) hr, by omega, fun h => ⟨by omega, hrP h⟩⟩
    unfold laws_szCommitS.f
    rw [hw, if_neg hn]
theorem toCommit_ev (x : S75) (h : fitC x) : Ev (fun k => laws_toCommit.f k x.f0 x.f1) (x.f0, x.f1.map cvEntry) := by
  unfold laws_toCommit.f
  exact Ev.bind (toIntS_ev _ h.1) (Ev.bind (toEntryS_ev _ h.2) (Ev.now _))
theorem toCommitS_ev (l : List S75) (h : l.length ≤ 1048576) (hf : ∀ x, x ∈ l → fitC x) : Ev (fun k => laws_toCommitS.f k l) (l.map cvCommit) := by
  refine Ev.congr (f := fun k => laws_toCommitS.l0 k l (List.replicate l.length z78) 0) (fun k => ?_) ?_
  · unfold laws_toCommitS.f
    rw [if_pos (by omega), if_pos (by omega)]
    rfl
  · exact ev_map_loop (L := laws_toCommitS.l0) (g := fun k x => (laws_toCommit.f k x.f0 x.f1).bind fun bt => some (⟨bt.1, bt.2⟩ : S78)) (cv := cvCommit) (z := z75) (fun k xs acc i => by
      simp only [laws_toCommitS.l0, Option.bind_assoc, Option.bind_some]
      rfl) l (by omega) (fun x hx => Ev.bind (toCommit_ev x (hf x hx)) (Ev.now _)) _ (by simp)
theorem eqCommitS_ev (l : List S78) (h : l.length ≤ 1048576) (hf : ∀ x, x ∈ l → x.f0.length ≤ 1048576 ∧ x.f1.length ≤ 1048576) : Ev (fun k => laws_eqCommitS.f k l l) true := by
  refine Ev.congr (f := fun k => laws_eqCommitS.l0 k l l 0) (fun k => ?_) ?_
  · unfold laws_eqCommitS.f
    rw [if_pos rfl]
  · exact ev_refl_loop (L := laws_eqCommitS.l0) (g := fun k x y => laws_eqCommit.f k x.f0 x.f1 y.f0 y.f1) (z := z78) (fun _ _ _ _ => rfl) l (by omega) (fun x hx => by
      unfold laws_eqCommit.f
      refine Ev.bind (eqIntS_ev _ (hf x hx).1) ?_
      simp only [if_true]
      refine Ev.bind (eqEntryS_ev _ (hf x hx).2) ?_
      simp only [if_true]
      exact Ev.now _)
theorem fit_cv {l : List S75} (hf : ∀ x, x ∈ l → fitC x) : ∀ x, x ∈ l.map cvCommit → x.f0.length ≤ 1048576 ∧ x.f1.length ≤ 1048576 := by
  intro x hx
  obtain ⟨y, hy, rfl⟩ := List.mem_map.mp hx
  exact ⟨(hf y hy).1, by simpa [cvCommit] using (hf y hy).2⟩
end Go.Proofs.Ytekoaaiemmblgaa.Q
end

section
namespace Go.Proofs.Ytekoaaiemmblgaa.Q
open Go.RowKit Go.Proofs.YtekoaaiemmblgaaW.PrintWords Go.Proofs.YtekoaaiemmblgaaW.PrintLast
set_option linter.unusedVariables false
set_option linter.unusedSimpArgs false
theorem markText_l0 : ∀ (d : Nat) (n : Int) (s : ByteArray), 0 ≤ n → n ≤ 9223372036854775807 → n < 10 ^ d → s.size + d ≤ 1000 → ∃ r, Ev (fun k => laws_markText.l0 k n s) r := by
  intro d
  induction d with
  | zero =>
    intro n s h0 hn9 h1 hs
    have hn : ¬ n > 0 := by simp at h1; omega
    have hz : 1 + s.size ≤ 9223372036854775807 := by omega
    exact ⟨_, Ev.at_ (c := 1) (fun k => by simp only [laws_markText.l0, hn, if_false, hz, if_true]; rfl)⟩
  | succ d ih =>
    intro n s h0 hn9 h1 hs
    by_cases hn : n > 0
    · have e1 : Int.tdiv n 10 = n / 10 := Int.tdiv_eq_ediv_of_nonneg h0
      have h2 : n / 10 < 10 ^ d := by
        rw [Int.pow_succ] at h1
        omega
      have hw : wrap64 (n / 10) = n / 10 := by unfold wrap64; omega
      have hz : (strOfNums [(wrap64 (48 + (Int.tmod n 10))) % 256]).size = 1 := rfl
      have hz2 : 1 + s.size ≤ 9223372036854775807 := by omega
      obtain ⟨r, hr⟩ := ih (n / 10) (strOfNums [(wrap64 (48 + (Int.tmod n 10))) % 256] ++ s) (by omega) (by omega) h2 (by rw [ByteArray.size_append, hz]; omega)
      refine ⟨r, Ev.step (fun k => ?_) hr⟩
      simp only [laws_markText.l0, hn, if_true, Option.bind_some, hz, hz2, e1, hw]
    · have hz : 1 + s.size ≤ 9223372036854775807 := by omega
      exact ⟨_, Ev.at_ (c := 1) (fun k => by simp only [laws_markText.l0, hn, if_false, hz, if_true]; rfl)⟩
theorem markTexts : ∃ mt : Int → ByteArray, ∀ n, 0 ≤ n → n ≤ 1000000000 → Ev (fun k => laws_markText.f k n) (mt n) := by
  have h : ∀ n : Int, ∃ s, 0 ≤ n → n ≤ 1000000000 → Ev (fun k => laws_markText.f k n) s := by
    intro n
    by_cases h0 : 0 ≤ n ∧ n ≤ 1000000000
    · by_cases h1 : n ≤ 0
      · exact ⟨_, fun _ _ => Ev.at_ (c := 0) (fun k => by unfold laws_markText.f; rw [if_pos h1])⟩
      · obtain ⟨s, hs⟩ := markText_l0 10 n (⟨#[]⟩ : ByteArray) h0.1 (by omega) (by omega) (by decide)
        exact ⟨s, fun _ _ => Ev.congr (fun k => by unfold laws_markText.f; rw [if_neg h1]) hs⟩
    · exact ⟨ByteArray.empty, fun a b => absurd ⟨a, b⟩ h0⟩
  exact ⟨fun n => Classical.choose (h n), fun n => Classical.choose_spec (h n)⟩
theorem ev_mark_loop {α : Type} {L : Nat → List α → Int → Int → Option (Int × List α)} {H : Nat → List α → Int → Int → Option Int} {mk : α → Int → α} {c : Int} (hc : 0 ≤ c)
    (stepL : ∀ (l : List α) (m : Int) (i : Nat) (hi : i < l.length), l.length ≤ 1048576 → 0 ≤ m → m ≤ 900000000 → ∀ r, Ev (fun k => L k (l.set i (mk l[i] m)) (m + c) ((i + 1 : Nat) : Int)) r → Ev (fun k => L k l m (i : Int)) r)
    (stepH : ∀ (l : List α) (m : Int) (i : Nat) (hi : i < l.length) (y : α), l[i] = mk y m → l.length ≤ 1048576 → 0 ≤ m → m ≤ 900000000 → ∀ r, Ev (fun k => H k l (m + c) ((i + 1 : Nat) : Int)) r → Ev (fun k => H k l m (i : Int)) r)
    (doneL : ∀ (l : List α) (m : Int) k, L (k + 1) l m (l.length : Int) = some (m, l)) (doneH : ∀ (l : List α) (m : Int) k, H (k + 1) l m (l.length : Int) = some m)
    (l : List α) (m : Int) (hl : l.length ≤ 1048576) (h0 : 0 ≤ m) (hm : m + c * l.length ≤ 900000000) :
    ∃ l', l'.length = l.length ∧ Ev (fun k => L k l m 0) (m + c * l.length, l') ∧ Ev (fun k => H k l' m 0) (m + c * l.length) := by
  have key : ∀ (d i : Nat) (l : List α) (m : Int), i + d = l.length → l.length ≤ 1048576 → 0 ≤ m → m + c * d ≤ 900000000 →
      ∃ l', l'.length = l.length ∧ l'.take i = l.take i ∧ Ev (fun k => L k l m (i : Int)) (m + c * d, l') ∧ Ev (fun k => H k l' m (i : Int)) (m + c * d) := by
    intro d
    induction d with
    | zero =>
      intro i l m hi hl h0 hm
      obtain rfl : i = l.length := by omega
      refine ⟨l, rfl, rfl, ?_, ?_⟩
      · simp only [Int.natCast_zero, Int.mul_zero, Int.add_zero]
        exact Ev.at_ (c := 1) (doneL l m)
      · simp only [Int.natCast_zero, Int.mul_zero, Int.add_zero]
        exact Ev.at_ (c := 1) (doneH l m)
    | succ d ih =>
      intro i l m hi hl h0 hm
      have hil : i < l.length := by omega
      have e : m + c + c * (d : Int) = m + c * ((d + 1 : Nat) : Int) := by
        rw [Int.natCast_add, Int.natCast_one, Int.mul_add, Int.mul_one]
        omega
      have hcd : 0 ≤ c * (d : Int) := Int.mul_nonneg hc (Int.natCast_nonneg d)
      obtain ⟨l', hl', ht, hL, hH⟩ := ih (i + 1) (l.set i (mk l[i] m)) (m + c) (by rw [List.length_set]; omega) (by rw [List.length_set]; omega) (by omega) (by omega)
      rw [List.length_set] at hl'
      rw [e] at hL hH
      have hg : l'[i]'(by omega) = mk l[i] m := by
        have h1 : (l'.take (i + 1))[i]'(by rw [List.length_take]; omega) = ((l.set i (mk l[i] m)).take (i + 1))[i]'(by rw [List.length_take, List.length_set]; omega) := by simp only [ht]
        simpa using h1
      refine ⟨l', hl', ?_, stepL l m i hil hl h0 (by omega) _ hL, stepH l' m i (by omega) l[i] hg (by omega) h0 (by omega) _ hH⟩
      have h2 := congrArg (List.take i) ht
      rw [List.take_take, List.take_take, Nat.min_eq_left (by omega)] at h2
      rw [h2, List.take_set_of_le (Nat.le_refl _)]
  obtain ⟨l', h1, _, h3, h4⟩ := key l.length 0 l m (by omega) hl h0 hm
  exact ⟨l', h1, h3, h4⟩
end Go.Proofs.Ytekoaaiemmblgaa.Q
end

section
namespace Go.Proofs.Ytekoaaiemmblgaa.Q
open Go.RowKit Go.Proofs.YtekoaaiemmblgaaW.PrintWords Go.Proofs.YtekoaaiemmblgaaW.PrintLast
set_option linter.unusedVariables false
set_option linter.unusedSimpArgs false
theorem markIntS_ev (l : List Int) (m : Int) (hl : l.length ≤ 1048576) (h0 : 0 ≤ m) (hm : m + 1 * l.length ≤ 900000000) :
    ∃ l', l'.length = l.length ∧ Ev (fun k => laws_markIntS.f k l m) (m + 1 * l.length, l') ∧ Ev (fun k => laws_heldIntS.f k l' m) (m + 1 * l.length) := by
  have rd0 : ∀ (l : List Int) (i : Nat) (h : i < l.length), rd l (i : Int) = l[i] := fun l i h => by simp [rd, List.getD_eq_getElem?_getD, List.getElem?_eq_getElem h]
  refine ev_mark_loop (L := laws_markIntS.l0) (H := laws_heldIntS.l0) (mk := fun x m => m) (c := 1) (by omega) ?_ ?_ ?_ ?_ l m hl h0 hm
  · intro l m i hi hl h0 hm r hr
    have c1 : (i : Int) < (l.length : Int) := by omega
    have w := wrap_i (show i < 4611686018427387904 by omega)
    have w1 : wrap64 (m + 1) = m + 1 := by unfold wrap64; omega
    refine Ev.succ (g := fun k => laws_markIntS.l0 k l m (i : Int)) ?_
    simp only [laws_markIntS.l0, c1, if_true, Int.natCast_nonneg, Int.toNat_natCast, w, w1]
    exact hr
  · intro l m i hi y hy hl h0 hm r hr
    have c1 : (i : Int) < (l.length : Int) := by omega
    have w := wrap_i (show i < 4611686018427387904 by omega)
    have w1 : wrap64 (m + 1) = m + 1 := by unfold wrap64; omega
    refine Ev.succ (g := fun k => laws_heldIntS.l0 k l m (i : Int)) ?_
    simp only [laws_heldIntS.l0, c1, if_true, Int.natCast_nonneg, rd0 l i hi, hy, w, w1]
    exact hr
  · intro l m k
    simp only [laws_markIntS.l0]
    rw [if_neg (by omega)]
  · intro l m k
    simp only [laws_heldIntS.l0]
    rw [if_neg (by omega)]
end Go.Proofs.Ytekoaaiemmblgaa.Q
end

section
namespace Go.Proofs.Ytekoaaiemmblgaa.Q
open Go.RowKit Go.Proofs.YtekoaaiemmblgaaW.PrintWords Go.Proofs.YtekoaaiemmblgaaW.PrintLast Go.Proofs.YtekoaaiemmblgaaW.PrintMore
attribute [local go_sem] max2_int min2_int max_two min_two max_three min_three max_four min_four   -- for this text's walks alone
set_option linter.unusedVariables false
set_option linter.unusedSimpArgs false
attribute [local go_sem] bin_leq bin_gtr bin_geq
def laws_heldEntryS.l0 : Nat → List (S87) → Int → Int → Option (Int)
  | 0, _, _, _ => none
  | k + 1, x0, x1, x5 => if x5 < (x0.length : Int) then (if 0 ≤ x5 then ((laws_markText.f k x1).bind fun t304 => (if ((rd_T87 x0 x5).f0).toList = t304.toList then (if ((rd_T87 x0 x5).f1) = (wrap64 (x1 + 1)) then (laws_heldEntryS.l0 k x0 (wrap64 ((wrap64 (x1 + 1)) + 1)) (wrap64 (x5 + 1))) else (some (-1))) else (some (-1)))) else (none)) else (some x1)
def laws_heldEntryS.f (k : Nat) (l0 : List (S87)) (a1 : Int) : Option (Int) := laws_heldEntryS.l0 k l0 a1 0
end Go.Proofs.Ytekoaaiemmblgaa.Q
end

section
namespace Go.Proofs.Ytekoaaiemmblgaa.Q
open Go.RowKit Go.Proofs.YtekoaaiemmblgaaW.PrintWords Go.Proofs.YtekoaaiemmblgaaW.PrintLast
set_option linter.unusedVariables false
set_option linter.unusedSimpArgs false
theorem markEntryS_ev (l : List S87) (m : Int) (hl : l.length ≤ 1048576) (h0 : 0 ≤ m) (hm : m + 2 * l.length ≤ 900000000) :
    ∃ l', l'.length = l.length ∧ Ev (fun k => laws_markEntryS.f k l m) (m + 2 * l.length, l') ∧ Ev (fun k => laws_heldEntryS.f k l' m) (m + 2 * l.length) := by
  obtain ⟨mt, hmt⟩ := markTexts
  have rd0 : ∀ (l : List S87) (i : Nat) (h : i < l.length), rd_T87 l (i : Int) = l[i] := fun l i h => by simp [rd_T87, List.getD_eq_getElem?_getD, List.getElem?_eq_getElem h]
  have rd1 : ∀ (l : List S87) (i : Nat) (v : S87) (h : i < l.length), rd_T87 (l.set i v) (i : Int) = v := fun l i v h => by rw [rd0 _ _ (by rw [List.length_set]; exact h)]; simp
  refine ev_mark_loop (L := laws_markEntryS.l0) (H := laws_heldEntryS.l0) (mk := fun x m => ⟨mt (m), m + 1⟩) (c := 2) (by omega) ?_ ?_ ?_ ?_ l m hl h0 hm
  · intro l m i hi hl h0 hm r hr
    have c1 : (i : Int) < (l.length : Int) := by omega
    have w := wrap_i (show i < 4611686018427387904 by omega)
    have w1 : wrap64 (m + 1) = m + 1 := by unfold wrap64; omega
    have w2 : wrap64 (m + 1 + 1) = m + 2 := by unfold wrap64; omega
    refine Ev.succ (g := fun k => laws_markEntryS.l0 k l m (i : Int)) ?_
    simp only [laws_markEntryS.l0, c1, if_true, Int.natCast_nonneg, Option.bind_some, Int.toNat_natCast, rd0 l i hi, rd1 l i _ hi, List.set_set, w, w1, w2]
    refine Ev.bind (hmt (m) (by omega) (by omega)) ?_
    (try simp only [if_true, rd0 l i hi, rd1 l i _ hi, List.set_set, Option.bind_some, w1, w2, bne_self_eq_false, Bool.false_eq_true, if_false])
    exact hr
  · intro l m i hi y hy hl h0 hm r hr
    have c1 : (i : Int) < (l.length : Int) := by omega
    have w := wrap_i (show i < 4611686018427387904 by omega)
    have w1 : wrap64 (m + 1) = m + 1 := by unfold wrap64; omega
    have w2 : wrap64 (m + 1 + 1) = m + 2 := by unfold wrap64; omega
    refine Ev.succ (g := fun k => laws_heldEntryS.l0 k l m (i : Int)) ?_
    simp only [laws_heldEntryS.l0, c1, if_true, Int.natCast_nonneg, rd0 l i hi, hy, w, w1, w2, bne_self_eq_false, Bool.false_eq_true, if_false]
    refine Ev.bind (hmt (m) (by omega) (by omega)) ?_
    (try simp only [if_true, rd0 l i hi, rd1 l i _ hi, List.set_set, Option.bind_some, w1, w2, bne_self_eq_false, Bool.false_eq_true, if_false])
    exact hr
  · intro l m k
    simp only [laws_markEntryS.l0]
    rw [if_neg (by omega)]
  · intro l m k
    simp only [laws_heldEntryS.l0]
    rw [if_neg (by omega)]
end Go.Proofs.Ytekoaaiemmblgaa.Q
end

section
namespace Go.Proofs.Ytekoaaiemmblgaa.Q
open Go.RowKit Go.Proofs.YtekoaaiemmblgaaW.PrintWords Go.Proofs.YtekoaaiemmblgaaW.PrintLast
set_option linter.unusedVariables false
set_option linter.unusedSimpArgs false
def wC (x : S78) : Nat := x.f0.length + 2 * x.f1.length
def wCs (l : List S78) : Nat := (l.map wC).sum
theorem markCommitS_ev : ∀ (l : List S78) (m : Int), (∀ x, x ∈ l → x.f0.length ≤ 1048576 ∧ x.f1.length ≤ 1048576) → 0 ≤ m → m + wCs l ≤ 900000000 → Ev (fun k => laws_markCommitS.f k l m) (m + wCs l)
  | [], m, _, _, _ => by
    have e : m + (wCs [] : Int) = m := by simp [wCs]
    rw [e]
    exact Ev.at_ (c := 0) (fun k => rfl)
  | x :: l, m, hf, h0, hm => by
    have e : wCs (x :: l) = wC x + wCs l := by simp [wCs]
    have hx := hf x List.mem_cons_self
    rw [e] at hm ⊢
    unfold wC at hm
    obtain ⟨l1, _, h1, _⟩ := markIntS_ev x.f0 m hx.1 h0 (by omega)
    obtain ⟨l2, _, h2, _⟩ := markEntryS_ev x.f1 (m + 1 * x.f0.length) hx.2 (by omega) (by omega)
    have ih := markCommitS_ev l (m + 1 * x.f0.length + 2 * x.f1.length) (fun y hy => hf y (List.mem_cons_of_mem _ hy)) (by omega) (by omega)
    have e2 : m + 1 * (x.f0.length : Int) + 2 * (x.f1.length : Int) + (wCs l : Int) = m + ((wC x + wCs l : Nat) : Int) := by unfold wC; omega
    rw [e2] at ih
    exact Ev.bind h1 (Ev.bind h2 ih)
theorem Ev.uniq {α : Type} {g : Nat → Option α} {r s : α} (h : Ev g r) (k : Ev g s) : r = s := by
  obtain ⟨K, h⟩ := h
  obtain ⟨M, k⟩ := k
  have h1 := h (K + M) (by omega)
  rw [k (K + M) (by omega)] at h1
  exact (Option.some.inj h1).symm
theorem szEntryS_w (l : List S84) (hl : l.length ≤ 9223372036854775807) (hg : ∀ x, x ∈ l → good84 x) (left r : Int) (h0 : 0 ≤ left) (h1 : left ≤ 1048576) (h : Ev (fun k => laws_szEntryS.f k l left) r) (hr : 0 ≤ r) : r ≤ left - (l.length : Int) := by
  have hw : wrap64 (left - (l.length : Int)) = left - (l.length : Int) := by unfold wrap64; omega
  by_cases hn : left - (l.length : Int) < 0
  · have h2 : Ev (fun k => laws_szEntryS.f k l left) (-1) := Ev.congr (f := fun _ => some (-1)) (fun k => by unfold laws_szEntryS.f; rw [hw, if_pos hn]) (Ev.now _)
    have := Ev.uniq h h2
    omega
  · obtain ⟨r2, hr2, hrl⟩ := ev_sz_loop (L := laws_szEntryS.l0) (g := fun _ x left => laws_szEntry.f x.f0 x.f1 left) (z := z84) (fun _ _ _ _ => rfl) l (by omega) (fun x hx left h0 h1 => by
      have hsz : x.f0.size ≤ 9223372036854775807 := (hg x hx).1
      have hw2 : wrap64 (left - (x.f0.size : Int)) = left - (x.f0.size : Int) := by unfold wrap64; omega
      by_cases h2 : left - (x.f0.size : Int) < 0
      · refine ⟨-1, Ev.congr (f := fun _ => some (-1)) (fun k => ?_) (Ev.now _), by omega⟩
        unfold laws_szEntry.f
        rw [hw2, if_pos h2]
      · refine ⟨left - (x.f0.size : Int), Ev.congr (f := fun _ => some (left - (x.f0.size : Int))) (fun k => ?_) (Ev.now _), by omega⟩
        unfold laws_szEntry.f
        rw [hw2, if_neg h2]) (left - (l.length : Int)) (by omega) (by omega)
    have h2 : Ev (fun k => laws_szEntryS.f k l left) r2 := Ev.congr (f := fun k => laws_szEntryS.l0 k l (left - (l.length : Int)) 0) (fun k => by unfold laws_szEntryS.f; rw [hw, if_neg hn]) hr2
    have := Ev.uniq h h2
    omega
theorem szCommit_w (x : S75) (g : good75 x) (left r : Int) (h0 : 0 ≤ left) (h1 : left ≤ 1048576) (h : Ev (fun k => laws_szCommit.f k x.f0 x.f1 left) r) (hr : 0 ≤ r) : r ≤ left - (x.f0.length + x.f1.length : Nat) := by
  have hw : wrap64 (left - (x.f0.length : Int)) = left - (x.f0.length : Int) := by
    have := g.1.1
    unfold wrap64; omega
  by_cases hn : left - (x.f0.length : Int) < 0
  · have e : laws_szIntS.f x.f0 left = some (-1) := by unfold laws_szIntS.f; rw [hw, if_pos hn]
    have h2 : Ev (fun k => laws_szCommit.f k x.f0 x.f1 left) (-1) := by
      unfold laws_szCommit.f
      simp only [e, Option.bind_some, show ((-1 : Int) < 0) = True by simp, if_true]
      exact Ev.now _
    have := Ev.uniq h h2
    omega
  · have e : laws_szIntS.f x.f0 left = some (left - (x.f0.length : Int)) := by unfold laws_szIntS.f; rw [hw, if_neg hn]
    obtain ⟨r2, hr2, hrl2, _⟩ := szEntryS_ev x.f1 g.2.1 g.2.2 (left - (x.f0.length : Int)) (by omega) (by omega)
    have h2 : Ev (fun k => laws_szCommit.f k x.f0 x.f1 left) (if r2 < 0 then -1 else r2) := by
      unfold laws_szCommit.f
      simp only [e, Option.bind_some, hn, if_false]
      refine Ev.bind hr2 ?_
      by_cases h3 : r2 < 0
      · simp only [h3, if_true]; exact Ev.now _
      · simp only [h3, if_false]; exact Ev.now _
    have h3 := Ev.uniq h h2
    by_cases h4 : r2 < 0
    · rw [if_pos h4] at h3
      omega
    · rw [if_neg h4] at h3
      have := szEntryS_w x.f1 g.2.1 g.2.2 _ r2 (by omega) (by omega) hr2 (by omega)
      omega
def lC (x : S75) : Nat := x.f0.length + x.f1.length
theorem szCommitS_l0 (xs : List S75) (hlen : xs.length ≤ 4611686018427387904) (hg : ∀ x, x ∈ xs → good75 x) : ∀ (d i : Nat) (left r : Int), i + d = xs.length → 0 ≤ left → left ≤ 1048576 → Ev (fun k => laws_szCommitS.l0 k xs left (i : Int)) r → 0 ≤ r → r ≤ left - (((xs.drop i).map lC).sum : Nat) := by
  intro d
  induction d with
  | zero =>
    intro i left r hi h0 h1 h hr
    have h2 : Ev (fun k => laws_szCommitS.l0 k xs left (i : Int)) left := Ev.at_ (c := 1) (fun k => by simp only [laws_szCommitS.l0]; rw [if_neg (by omega)])
    have := Ev.uniq h h2
    rw [List.drop_eq_nil_of_le (by omega)]
    simp
    omega
  | succ d ih =>
    intro i left r hi h0 h1 h hr
    have hl : i < xs.length := by omega
    have hw : wrap64 ((i : Int) + 1) = ((i + 1 : Nat) : Int) := by unfold wrap64; omega
    have c1 : (i : Int) < (xs.length : Int) := by omega
    have hx : rd_T75 xs (i : Int) = xs[i] := by simp [rd_T75, List.getD_eq_getElem?_getD, List.getElem?_eq_getElem hl]
    obtain ⟨t, ht, htl, _⟩ := szCommit_ev xs[i] (hg _ (List.getElem_mem hl)) left h0 h1
    have step : ∀ q, Ev (fun k => if t < 0 then some (-1) else laws_szCommitS.l0 k xs t ((i + 1 : Nat) : Int)) q → Ev (fun k => laws_szCommitS.l0 k xs left (i : Int)) q := by
      intro q hq
      refine Ev.succ (g := fun k => laws_szCommitS.l0 k xs left (i : Int)) ?_
      simp only [laws_szCommitS.l0, c1, Int.natCast_nonneg, if_true, hx, hw]
      exact Ev.bind ht hq
    by_cases hn : t < 0
    · have h2 := step (-1) (by simp only [hn, if_true]; exact Ev.now _)
      have := Ev.uniq h h2
      omega
    · have h3 := szCommit_w xs[i] (hg _ (List.getElem_mem hl)) left t h0 h1 ht (by omega)
      obtain ⟨q, hq⟩ : ∃ q, Ev (fun k => laws_szCommitS.l0 k xs t ((i + 1 : Nat) : Int)) q := by
        obtain ⟨K, hK⟩ := h
        obtain ⟨M, hM⟩ := ht
        refine ⟨r, K + M, fun n hn2 => ?_⟩
        have h5 := hK (n + 1) (by omega)
        have h6 : laws_szCommit.f n xs[i].f0 xs[i].f1 left = some t := hM n (by omega)
        simp only [laws_szCommitS.l0, c1, Int.natCast_nonneg, if_true, hx, hw] at h5
        rw [h6] at h5
        simp only [Option.bind_some, hn, if_false] at h5
        exact h5
      have h2 := step q (by simp only [hn, if_false]; exact hq)
      obtain rfl := Ev.uniq h h2
      have h4 := ih (i + 1) t r (by omega) (by omega) (by omega) hq hr
      rw [List.drop_eq_getElem_cons hl, List.map_cons, List.sum_cons]
      unfold lC at h4 ⊢
      omega
theorem szCommitS_w (l : List S75) (hl : l.length ≤ 9223372036854775807) (hg : ∀ x, x ∈ l → good75 x) (left r : Int) (h0 : 0 ≤ left) (h1 : left ≤ 1048576) (h : Ev (fun k => laws_szCommitS.f k l left) r) (hr : 0 ≤ r) : (l.map lC).sum ≤ 1048576 := by
  have hw : wrap64 (left - (l.length : Int)) = left - (l.length : Int) := by unfold wrap64; omega
  by_cases hn : left - (l.length : Int) < 0
  · have h2 : Ev (fun k => laws_szCommitS.f k l left) (-1) := Ev.congr (f := fun _ => some (-1)) (fun k => by unfold laws_szCommitS.f; rw [hw, if_pos hn]) (Ev.now _)
    have := Ev.uniq h h2
    omega
  · have h2 : Ev (fun k => laws_szCommitS.l0 k l (left - (l.length : Int)) ((0 : Nat) : Int)) r := Ev.congr (f := fun k => laws_szCommitS.f k l left) (fun k => by unfold laws_szCommitS.f; rw [hw, if_neg hn]; rfl) h
    have h3 := szCommitS_l0 l (by omega) hg l.length 0 (left - (l.length : Int)) r (by omega) (by omega) (by omega) h2 hr
    rw [List.drop_zero] at h3
    omega
theorem wCs_le (l : List S75) : wCs (l.map cvCommit) ≤ 2 * (l.map lC).sum := by
  unfold wCs
  induction l with
  | nil => simp
  | cons x l ih =>
    have e : wC (cvCommit x) ≤ 2 * lC x := by
      unfold wC lC cvCommit
      simp only [List.length_map]
      omega
    simp only [List.map_cons, List.sum_cons] at ih ⊢
    omega
end Go.Proofs.Ytekoaaiemmblgaa.Q
end

section
namespace Go.Proofs.Ytekoaaiemmblgaa.Pure
open Go.RowKit Go.Proofs.Ytekoaaiemmblgaa.Q Go.Proofs.YtekoaaiemmblgaaW.PrintWords Go.Proofs.YtekoaaiemmblgaaW.PrintLast
set_option linter.unusedVariables false
set_option linter.unusedSimpArgs false
theorem line_loop (st : List S78) (hs : storeB st = true) : ∀ (n i : Nat) (acc : List Int), i ≤ n → 1 ≤ i → i ≤ st.length → acc.length ≤ 1000000 - i → ∃ r, r.length ≤ acc.length + i ∧ Ev (fun k => spec_FirstLine.l0 k st (i : Int) acc) (r, 0) ∧ Ev (fun k => impl_FirstLine.l0 k st (i : Int) acc) (r, 0)
  | 0, i, _, h1, h2, _, _ => by omega
  | n + 1, i, acc, h1, h2, h3, ha => by
    obtain ⟨h60, _, hc⟩ := storeB_at hs
    obtain ⟨j, rfl⟩ : ∃ j, i = j + 1 := ⟨i - 1, by omega⟩
    obtain ⟨hpar, hne, _⟩ := commitB_par (hc j (by omega))
    have hw : wrap64 (((j + 1 : Nat) : Int) - 1) = (j : Int) := by unfold wrap64; omega
    have c1 : (j : Int) < (st.length : Int) := by omega
    have c2 : acc.length < 17592186044416 := by omega
    cases hps : (st.getD j z78).f0 with
    | nil =>
      refine ⟨acc, by omega, Ev.at_ (c := 1) (fun k => ?_), Ev.at_ (c := 1) (fun k => ?_)⟩
      · simp only [spec_FirstLine.l0, hw, Int.natCast_nonneg, if_true, c1, rdC_, hps, List.length_nil, Int.natCast_zero, gt_iff_lt, Int.lt_irrefl, if_false]
      · simp only [impl_FirstLine.l0, hw, Int.natCast_nonneg, if_true, c1, rdC_, hps, List.length_nil, Int.natCast_zero, gt_iff_lt, Int.lt_irrefl, if_false]
    | cons p ps =>
      have hp := hpar p (by rw [hps]; simp)
      obtain ⟨q, rfl⟩ : ∃ q : Nat, p = (q : Int) := ⟨p.toNat, by omega⟩
      have c3 : ((((q : Int) :: ps).length : Nat) : Int) > 0 := by simp only [List.length_cons]; omega
      have c4 : (0 : Int) < ((((q : Int) :: ps).length : Nat) : Int) := by simp only [List.length_cons]; omega
      have er : rd ((q : Int) :: ps) 0 = (q : Int) := rfl
      obtain ⟨r, hr, e1, e2⟩ := line_loop st hs n q (acc ++ [(q : Int)]) (by omega) (by omega) (by omega) (by simp; omega)
      rw [List.length_append, List.length_singleton] at hr
      refine ⟨r, by omega, ?_, ?_⟩
      · refine Ev.succ (g := fun k => spec_FirstLine.l0 k st ((j + 1 : Nat) : Int) acc) ?_
        simp only [spec_FirstLine.l0, hw, Int.natCast_nonneg, if_true, c1, rdC_, hps, c3, c4, c2, er]
        exact e1
      · refine Ev.succ (g := fun k => impl_FirstLine.l0 k st ((j + 1 : Nat) : Int) acc) ?_
        simp only [impl_FirstLine.l0, hw, Int.natCast_nonneg, if_true, c1, rdC_, hps, c3, c4, c2, er]
        exact e2
theorem line_both (st : List S78) (a : Int) (hl : st.length ≤ 1048576) (hf : ∀ x, x ∈ st → x.f1.length ≤ 1048576) : ∃ r c, Ev (fun k => spec_FirstLine.f k st a) (r, c) ∧ Ev (fun k => impl_FirstLine.f k st a) (r, c) ∧ r.length ≤ 1048576 := by
  have hI := idCode_ev st [a] hl hf
  have hS := l03Ask_ev st [a] (by simp)
  unfold spec_FirstLine.f impl_FirstLine.f
  by_cases h1 : (st.length : Int) > 4096
  · rw [askC_long h1] at hI
    exact ⟨[], 2, by simp only [h1, if_true]; exact Ev.now _, Ev.bind hI (Ev.now _), by simp⟩
  simp only [h1, if_false]
  by_cases h0 : askC st [a] = 0
  · obtain ⟨hs, hx⟩ := askC_zero h0
    have ha := hx a (by simp)
    obtain ⟨h60, _, _⟩ := storeB_at hs
    obtain ⟨i, rfl⟩ : ∃ i : Nat, a = (i : Int) := ⟨a.toNat, by omega⟩
    rw [h0] at hI hS
    obtain ⟨r, hr, e1, e2⟩ := line_loop st hs i i [(i : Int)] (Nat.le_refl _) (by omega) (by omega) (by simp; omega)
    exact ⟨r, 0, Ev.bind hS (by simp only [if_true]; exact e1), Ev.bind hI (by simp only [if_true]; exact e2), by simp at hr; omega⟩
  · exact ⟨[], askC st [a], Ev.bind hS (by simp only [h0, if_false]; exact Ev.now _), Ev.bind hI (by simp only [h0, if_false]; exact Ev.now _), by simp⟩
theorem FnExactFirstLine : laws_FnExactFirstLine.Pure := by
  intro l0 a1 w0 w1
  refine Ev.rounds ?_
  unfold laws_FnExactFirstLine.f
  obtain ⟨r, hr, hrl, hrs⟩ := szCommitS_ev l0 w0.1 w0.2 1048576 (by omega) (by omega)
  refine Ev.bind hr ?_
  by_cases hn : r < 0
  · simp only [hn, if_true]
    exact Ev.now _
  simp only [hn, if_false]
  obtain ⟨hl, hf⟩ := hrs (by omega)
  have hw := szCommitS_w l0 w0.1 w0.2 1048576 r (by omega) (by omega) hr (by omega)
  have hw2 := wCs_le l0
  have ht := toCommitS_ev l0 hl hf
  have hf2 := fit_cv hf
  have hl2 : (l0.map cvCommit).length ≤ 1048576 := by simpa using hl
  obtain ⟨res, code, hs, hi, hres⟩ := line_both (l0.map cvCommit) a1 hl2 (fun x hx => (hf2 x hx).2)
  refine Ev.bind ht (Ev.bind hs (Ev.bind ht (Ev.bind hi (Ev.bind (eqIntS_ev res hres) ?_))))
  simp only [if_true, bne_self_eq_false]
  refine Ev.succ ?_
  simp only [laws_FnExactFirstLine.j0, Bool.false_eq_true, if_false]
  refine Ev.bind ht (Ev.bind (eqCommitS_ev _ hl2 hf2) ?_)
  simp only [if_true]
  refine Ev.bind (markCommitS_ev (l0.map cvCommit) 1 hf2 (by omega) (by omega)) ?_
  have n1 : ¬ (1 + (wCs (l0.map cvCommit) : Int) < 0) := by omega
  simp only [n1, if_false]
  refine Ev.bind (eqIntS_ev res hres) ?_
  simp only [if_true, bne_self_eq_false]
  refine Ev.succ ?_
  simp only [laws_FnExactFirstLine.j1, Bool.false_eq_true, if_false]
  obtain ⟨lr, _, hmR, hhR⟩ := markIntS_ev res 1 hres (by omega) (by omega)
  have n2 : ¬ (1 + 1 * (res.length : Int) < 0) := by omega
  refine Ev.bind hmR (Ev.bind hhR ?_)
  simp only [n2, if_false, if_true]
  refine Ev.bind ht (Ev.bind hi (Ev.bind (eqIntS_ev res hres) ?_))
  simp only [if_true, bne_self_eq_false]
  refine Ev.succ ?_
  simp only [laws_FnExactFirstLine.j2, Bool.false_eq_true, if_false]
  refine Ev.bind hhR ?_
  simp only [n2, if_false, if_true]
  exact Ev.now _
end Go.Proofs.Ytekoaaiemmblgaa.Pure
end
