/- Parts of the proof of the law FnExactRebase, joined into one text. -/
import Derived.Test.YtblejbgkcgajgaaMFnExactRebase6
section
namespace Go.Proofs.Ytblejbgkcgajgaa.Q
open Go.RowKit Go.Proofs.YtblejbgkcgajgaaW.PrintWords Go.Proofs.YtblejbgkcgajgaaW.PrintLast
set_option linter.unusedVariables false
set_option linter.unusedSimpArgs false
theorem eqEdit_refl (x : S62) : laws_eqEdit.f x.f0 x.f1 x.f2 x.f0 x.f1 x.f2 = some true := by
  unfold laws_eqEdit.f
  simp
theorem eqEditS_ev (l : List S62) (h : l.length ≤ 1048576) : Ev (fun k => laws_eqEditS.f k l l) true := by
  refine Ev.congr (f := fun k => laws_eqEditS.l0 k l l 0) (fun k => ?_) ?_
  · unfold laws_eqEditS.f
    rw [if_pos rfl]
  · exact ev_refl_loop (L := laws_eqEditS.l0) (g := fun _ x y => laws_eqEdit.f x.f0 x.f1 x.f2 y.f0 y.f1 y.f2) (z := z62) (fun _ _ _ _ => rfl) l (by omega) (fun x _ => Ev.congr (fun _ => eqEdit_refl x) (Ev.now _))
end Go.Proofs.Ytblejbgkcgajgaa.Q
end

section
namespace Go.Proofs.Ytblejbgkcgajgaa.Q
open Go.RowKit Go.Proofs.YtblejbgkcgajgaaW.PrintWords Go.Proofs.YtblejbgkcgajgaaW.PrintLast
set_option linter.unusedVariables false
set_option linter.unusedSimpArgs false
theorem markText_l0 : ∀ (d : Nat) (n : Int) (s : ByteArray), 0 ≤ n → n ≤ 9223372036854775807 → n < 10 ^ d → s.size + d ≤ 1000 → ∃ r, Ev (fun k => laws_markText.l0 k n s) r := by
  intro d
  induction d with
  | zero =>
    intro n s h0 hn9 h1 hs
    have hn : ¬ n > 0 := by simp at h1; omega
    have hz : 1 + s.size ≤ 9223372036854775807 := by omega
    exact ⟨_, Ev.at_ (c := 1) (fun k => by simp only [laws_markText.l0, hn, if_false, hz, if_true]; rfl)⟩
  | succ d ih =>
    intro n s h0 hn9 h1 hs
    by_cases hn : n > 0
    · have e1 : Int.tdiv n 10 = n / 10 := Int.tdiv_eq_ediv_of_nonneg h0
      have h2 : n / 10 < 10 ^ d := by
        rw [Int.pow_succ] at h1
        omega
      have hw : wrap64 (n / 10) = n / 10 := by unfold wrap64; omega
      have hz : (strOfNums [(wrap64 (48 + (Int.tmod n 10))) % 256]).size = 1 := rfl
      have hz2 : 1 + s.size ≤ 9223372036854775807 := by omega
      obtain ⟨r, hr⟩ := ih (n / 10) (strOfNums [(wrap64 (48 + (Int.tmod n 10))) % 256] ++ s) (by omega) (by omega) h2 (by rw [ByteArray.size_append, hz]; omega)
      refine ⟨r, Ev.step (fun k => ?_) hr⟩
      simp only [laws_markText.l0, hn, if_true, Option.bind_some, hz, hz2, e1, hw]
    · have hz : 1 + s.size ≤ 9223372036854775807 := by omega
      exact ⟨_, Ev.at_ (c := 1) (fun k => by simp only [laws_markText.l0, hn, if_false, hz, if_true]; rfl)⟩
theorem markTexts : ∃ mt : Int → ByteArray, ∀ n, 0 ≤ n → n ≤ 1000000000 → Ev (fun k => laws_markText.f k n) (mt n) := by
  have h : ∀ n : Int, ∃ s, 0 ≤ n → n ≤ 1000000000 → Ev (fun k => laws_markText.f k n) s := by
    intro n
    by_cases h0 : 0 ≤ n ∧ n ≤ 1000000000
    · by_cases h1 : n ≤ 0
      · exact ⟨_, fun _ _ => Ev.at_ (c := 0) (fun k => by unfold laws_markText.f; rw [if_pos h1])⟩
      · obtain ⟨s, hs⟩ := markText_l0 10 n (⟨#[]⟩ : ByteArray) h0.1 (by omega) (by omega) (by decide)
        exact ⟨s, fun _ _ => Ev.congr (fun k => by unfold laws_markText.f; rw [if_neg h1]) hs⟩
    · exact ⟨ByteArray.empty, fun a b => absurd ⟨a, b⟩ h0⟩
  exact ⟨fun n => Classical.choose (h n), fun n => Classical.choose_spec (h n)⟩
theorem ev_mark_loop {α : Type} {L : Nat → List α → Int → Int → Option (Int × List α)} {H : Nat → List α → Int → Int → Option Int} {mk : α → Int → α} {c : Int} (hc : 0 ≤ c)
    (stepL : ∀ (l : List α) (m : Int) (i : Nat) (hi : i < l.length), l.length ≤ 1048576 → 0 ≤ m → m ≤ 900000000 → ∀ r, Ev (fun k => L k (l.set i (mk l[i] m)) (m + c) ((i + 1 : Nat) : Int)) r → Ev (fun k => L k l m (i : Int)) r)
    (stepH : ∀ (l : List α) (m : Int) (i : Nat) (hi : i < l.length) (y : α), l[i] = mk y m → l.length ≤ 1048576 → 0 ≤ m → m ≤ 900000000 → ∀ r, Ev (fun k => H k l (m + c) ((i + 1 : Nat) : Int)) r → Ev (fun k => H k l m (i : Int)) r)
    (doneL : ∀ (l : List α) (m : Int) k, L (k + 1) l m (l.length : Int) = some (m, l)) (doneH : ∀ (l : List α) (m : Int) k, H (k + 1) l m (l.length : Int) = some m)
    (l : List α) (m : Int) (hl : l.length ≤ 1048576) (h0 : 0 ≤ m) (hm : m + c * l.length ≤ 900000000) :
    ∃ l', l'.length = l.length ∧ Ev (fun k => L k l m 0) (m + c * l.length, l') ∧ Ev (fun k => H k l' m 0) (m + c * l.length) := by
  have key : ∀ (d i : Nat) (l : List α) (m : Int), i + d = l.length → l.length ≤ 1048576 → 0 ≤ m → m + c * d ≤ 900000000 →
      ∃ l', l'.length = l.length ∧ l'.take i = l.take i ∧ Ev (fun k => L k l m (i : Int)) (m + c * d, l') ∧ Ev (fun k => H k l' m (i : Int)) (m + c * d) := by
    intro d
    induction d with
    | zero =>
      intro i l m hi hl h0 hm
      obtain rfl : i = l.length := by omega
      refine ⟨l, rfl, rfl, ?_, ?_⟩
      · simp only [Int.natCast_zero, Int.mul_zero, Int.add_zero]
        exact Ev.at_ (c := 1) (doneL l m)
      · simp only [Int.natCast_zero, Int.mul_zero, Int.add_zero]
        exact Ev.at_ (c := 1) (doneH l m)
    | succ d ih =>
      intro i l m hi hl h0 hm
      have hil : i < l.length := by omega
      have e : m + c + c * (d : Int) = m + c * ((d + 1 : Nat) : Int) := by
        rw [Int.natCast_add, Int.natCast_one, Int.mul_add, Int.mul_one]
        omega
      have hcd : 0 ≤ c * (d : Int) := Int.mul_nonneg hc (Int.natCast_nonneg d)
      obtain ⟨l', hl', ht, hL, hH⟩ := ih (i + 1) (l.set i (mk l[i] m)) (m + c) (by rw [List.length_set]; omega) (by rw [List.length_set]; omega) (by omega) (by omega)
      rw [List.length_set] at hl'
      rw [e] at hL hH
      have hg : l'[i]'(by omega) = mk l[i] m := by
        have h1 : (l'.take (i + 1))[i]'(by rw [List.length_take]; omega) = ((l.set i (mk l[i] m)).take (i + 1))[i]'(by rw [List.length_take, List.length_set]; omega) := by simp only [ht]
        simpa using h1
      refine ⟨l', hl', ?_, stepL l m i hil hl h0 (by omega) _ hL, stepH l' m i (by omega) l[i] hg (by omega) h0 (by omega) _ hH⟩
      have h2 := congrArg (List.take i) ht
      rw [List.take_take, List.take_take, Nat.min_eq_left (by omega)] at h2
      rw [h2, List.take_set_of_le (Nat.le_refl _)]
  obtain ⟨l', h1, _, h3, h4⟩ := key l.length 0 l m (by omega) hl h0 hm
  exact ⟨l', h1, h3, h4⟩
end Go.Proofs.Ytblejbgkcgajgaa.Q
end

section
namespace Go.Proofs.Ytblejbgkcgajgaa.Q
open Go.RowKit Go.Proofs.YtblejbgkcgajgaaW.PrintWords Go.Proofs.YtblejbgkcgajgaaW.PrintLast
set_option linter.unusedVariables false
set_option linter.unusedSimpArgs false
theorem markEditS_ev (l : List S62) (m : Int) (hl : l.length ≤ 1048576) (h0 : 0 ≤ m) (hm : m + 3 * l.length ≤ 900000000) :
    ∃ l', l'.length = l.length ∧ Ev (fun k => laws_markEditS.f k l m) (m + 3 * l.length, l') ∧ Ev (fun k => laws_heldEditS.f k l' m) (m + 3 * l.length) := by
  obtain ⟨mt, hmt⟩ := markTexts
  have rd0 : ∀ (l : List S62) (i : Nat) (h : i < l.length), rd_T62 l (i : Int) = l[i] := fun l i h => by simp [rd_T62, List.getD_eq_getElem?_getD, List.getElem?_eq_getElem h]
  have rd1 : ∀ (l : List S62) (i : Nat) (v : S62) (h : i < l.length), rd_T62 (l.set i v) (i : Int) = v := fun l i v h => by rw [rd0 _ _ (by rw [List.length_set]; exact h)]; simp
  refine ev_mark_loop (L := laws_markEditS.l0) (H := laws_heldEditS.l0) (mk := fun x m => ⟨mt (m), m + 1, (Int.tmod (m + 2) 3 == 0)⟩) (c := 3) (by omega) ?_ ?_ ?_ ?_ l m hl h0 hm
  · intro l m i hi hl h0 hm r hr
    have c1 : (i : Int) < (l.length : Int) := by omega
    have w := wrap_i (show i < 4611686018427387904 by omega)
    have w1 : wrap64 (m + 1) = m + 1 := by unfold wrap64; omega
    have w2 : wrap64 (m + 1 + 1) = m + 2 := by unfold wrap64; omega
    have w3 : wrap64 (m + 2 + 1) = m + 3 := by unfold wrap64; omega
    refine Ev.succ (g := fun k => laws_markEditS.l0 k l m (i : Int)) ?_
    simp only [laws_markEditS.l0, c1, if_true, Int.natCast_nonneg, Option.bind_some, Int.toNat_natCast, rd0 l i hi, rd1 l i _ hi, List.set_set, w, w1, w2, w3]
    refine Ev.bind (hmt (m) (by omega) (by omega)) ?_
    (try simp only [if_true, rd0 l i hi, rd1 l i _ hi, List.set_set, Option.bind_some, w1, w2, w3, bne_self_eq_false, Bool.false_eq_true, if_false])
    exact hr
  · intro l m i hi y hy hl h0 hm r hr
    have c1 : (i : Int) < (l.length : Int) := by omega
    have w := wrap_i (show i < 4611686018427387904 by omega)
    have w1 : wrap64 (m + 1) = m + 1 := by unfold wrap64; omega
    have w2 : wrap64 (m + 1 + 1) = m + 2 := by unfold wrap64; omega
    have w3 : wrap64 (m + 2 + 1) = m + 3 := by unfold wrap64; omega
    refine Ev.succ (g := fun k => laws_heldEditS.l0 k l m (i : Int)) ?_
    simp only [laws_heldEditS.l0, c1, if_true, Int.natCast_nonneg, rd0 l i hi, hy, w, w1, w2, w3, bne_self_eq_false, Bool.false_eq_true, if_false]
    refine Ev.bind (hmt (m) (by omega) (by omega)) ?_
    (try simp only [if_true, rd0 l i hi, rd1 l i _ hi, List.set_set, Option.bind_some, w1, w2, w3, bne_self_eq_false, Bool.false_eq_true, if_false])
    exact hr
  · intro l m k
    simp only [laws_markEditS.l0]
    rw [if_neg (by omega)]
  · intro l m k
    simp only [laws_heldEditS.l0]
    rw [if_neg (by omega)]
end Go.Proofs.Ytblejbgkcgajgaa.Q
end

section
namespace Go.Proofs.Ytblejbgkcgajgaa.Q
open Go.RowKit Go.Proofs.YtblejbgkcgajgaaW.PrintWords Go.Proofs.YtblejbgkcgajgaaW.PrintLast
set_option linter.unusedVariables false
def cvEntry (x : S51) : S55 := ⟨x.f0, x.f1⟩
theorem toEntryS_ev (l : List S51) (h : l.length ≤ 1048576) : Ev (fun k => laws_toEntryS.f k l) (l.map cvEntry) := by
  refine Ev.congr (f := fun k => laws_toEntryS.l0 k l (List.replicate l.length z55) 0) (fun k => ?_) ?_
  · unfold laws_toEntryS.f
    rw [if_pos (by omega), if_pos (by omega)]
    rfl
  · exact ev_map_loop (L := laws_toEntryS.l0) (g := fun _ x => some (cvEntry x)) (z := z51) (fun _ _ _ _ => rfl) l (by omega) (fun x _ => Ev.now _) _ (by simp)
theorem eqEntry_refl (x : S55) : laws_eqEntry.f x.f0 x.f1 x.f0 x.f1 = some true := by
  unfold laws_eqEntry.f
  simp
theorem eqEntryS_ev (l : List S55) (h : l.length ≤ 1048576) : Ev (fun k => laws_eqEntryS.f k l l) true := by
  refine Ev.congr (f := fun k => laws_eqEntryS.l0 k l l 0) (fun k => ?_) ?_
  · unfold laws_eqEntryS.f
    rw [if_pos rfl]
  · exact ev_refl_loop (L := laws_eqEntryS.l0) (g := fun _ x y => laws_eqEntry.f x.f0 x.f1 y.f0 y.f1) (z := z55) (fun _ _ _ _ => rfl) l (by omega) (fun x _ => Ev.congr (fun _ => eqEntry_refl x) (Ev.now _))
theorem szEntryS_ev (l : List S51) (hl : l.length ≤ 9223372036854775807) (hg : ∀ x, x ∈ l → good51 x) (left : Int) (h0 : 0 ≤ left) (h1 : left ≤ 1048576) :
    ∃ r, Ev (fun k => laws_szEntryS.f k l left) r ∧ r ≤ left ∧ (0 ≤ r → l.length ≤ 1048576) := by
  have hw : wrap64 (left - (l.length : Int)) = left - (l.length : Int) := by unfold wrap64; omega
  by_cases hn : left - (l.length : Int) < 0
  · refine ⟨-1, Ev.congr (f := fun _ => some (-1)) (fun k => ?_) (Ev.now _), by omega, by omega⟩
    unfold laws_szEntryS.f
    rw [hw, if_pos hn]
  · obtain ⟨r, hr, hrl⟩ := ev_sz_loop (L := laws_szEntryS.l0) (g := fun _ x left => laws_szEntry.f x.f0 x.f1 left) (z := z51) (fun _ _ _ _ => rfl) l (by omega) (fun x hx left h0 h1 => by
      have hsz : x.f0.size ≤ 9223372036854775807 := (hg x hx).1
      have hw2 : wrap64 (left - (x.f0.size : Int)) = left - (x.f0.size : Int) := by unfold wrap64; omega
      by_cases h2 : left - (x.f0.size : Int) < 0
      · refine ⟨-1, Ev.congr (f := fun _ => some (-1)) (fun k => ?_) (Ev.now _), by omega⟩
        unfold laws_szEntry.f
        rw [hw2, if_pos h2]
      · refine ⟨left - (x.f0.size : Int), Ev.congr (f := fun _ => some (left - (x.f0.size : Int))) (fun k => ?_) (Ev.now _), by omega⟩
        unfold laws_szEntry.f
        rw [hw2, if_neg h2]) (left - (l.length : Int)) (by omega) (by omega)
    refine ⟨r, Ev.congr (f := fun k => laws_szEntryS.l0 k l (left - (l.length : Int)) 0) (fun k => ?_) hr, by omega, by omega⟩
    unfold laws_szEntryS.f
    rw [hw, if_neg hn]
end Go.Proofs.Ytblejbgkcgajgaa.Q
end

section
namespace Go.Proofs.Ytblejbgkcgajgaa.Q
open Go.RowKit Go.Proofs.YtblejbgkcgajgaaW.PrintWords Go.Proofs.YtblejbgkcgajgaaW.PrintLast Go.Proofs.YtblejbgkcgajgaaW.PrintMore
attribute [local go_sem] max2_int min2_int max_two min_two max_three min_three max_four min_four   -- for this text's walks alone
set_option linter.unusedVariables false
set_option linter.unusedSimpArgs false
attribute [local go_sem] bin_leq bin_gtr bin_geq
def laws_heldEntryS.l0 : Nat → List (S55) → Int → Int → Option (Int)
  | 0, _, _, _ => none
  | k + 1, x0, x1, x5 => if x5 < (x0.length : Int) then (if 0 ≤ x5 then ((laws_markText.f k x1).bind fun t520 => (if ((rd_T55 x0 x5).f0).toList = t520.toList then (if ((rd_T55 x0 x5).f1) = (wrap64 (x1 + 1)) then (laws_heldEntryS.l0 k x0 (wrap64 ((wrap64 (x1 + 1)) + 1)) (wrap64 (x5 + 1))) else (some (-1))) else (some (-1)))) else (none)) else (some x1)
def laws_heldEntryS.f (k : Nat) (l0 : List (S55)) (a1 : Int) : Option (Int) := laws_heldEntryS.l0 k l0 a1 0
end Go.Proofs.Ytblejbgkcgajgaa.Q
end

section
namespace Go.Proofs.Ytblejbgkcgajgaa.Q
open Go.RowKit Go.Proofs.YtblejbgkcgajgaaW.PrintWords Go.Proofs.YtblejbgkcgajgaaW.PrintLast
set_option linter.unusedVariables false
set_option linter.unusedSimpArgs false
theorem markEntryS_ev (l : List S55) (m : Int) (hl : l.length ≤ 1048576) (h0 : 0 ≤ m) (hm : m + 2 * l.length ≤ 900000000) :
    ∃ l', l'.length = l.length ∧ Ev (fun k => laws_markEntryS.f k l m) (m + 2 * l.length, l') ∧ Ev (fun k => laws_heldEntryS.f k l' m) (m + 2 * l.length) := by
  obtain ⟨mt, hmt⟩ := markTexts
  have rd0 : ∀ (l : List S55) (i : Nat) (h : i < l.length), rd_T55 l (i : Int) = l[i] := fun l i h => by simp [rd_T55, List.getD_eq_getElem?_getD, List.getElem?_eq_getElem h]
  have rd1 : ∀ (l : List S55) (i : Nat) (v : S55) (h : i < l.length), rd_T55 (l.set i v) (i : Int) = v := fun l i v h => by rw [rd0 _ _ (by rw [List.length_set]; exact h)]; simp
  refine ev_mark_loop (L := laws_markEntryS.l0) (H := laws_heldEntryS.l0) (mk := fun x m => ⟨mt (m), m + 1⟩) (c := 2) (by omega) ?_ ?_ ?_ ?_ l m hl h0 hm
  · intro l m i hi hl h0 hm r hr
    have c1 : (i : Int) < (l.length : Int) := by omega
    have w := wrap_i (show i < 4611686018427387904 by omega)
    have w1 : wrap64 (m + 1) = m + 1 := by unfold wrap64; omega
    have w2 : wrap64 (m + 1 + 1) = m + 2 := by unfold wrap64; omega
    refine Ev.succ (g := fun k => laws_markEntryS.l0 k l m (i : Int)) ?_
    simp only [laws_markEntryS.l0, c1, if_true, Int.natCast_nonneg, Option.bind_some, Int.toNat_natCast, rd0 l i hi, rd1 l i _ hi, List.set_set, w, w1, w2]
    refine Ev.bind (hmt (m) (by omega) (by omega)) ?_
    (try simp only [if_true, rd0 l i hi, rd1 l i _ hi, List.set_set, Option.bind_some, w1, w2, bne_self_eq_false, Bool.false_eq_true, if_false])
    exact hr
  · intro l m i hi y hy hl h0 hm r hr
    have c1 : (i : Int) < (l.length : Int) := by omega
    have w := wrap_i (show i < 4611686018427387904 by omega)
    have w1 : wrap64 (m + 1) = m + 1 := by unfold wrap64; omega
    have w2 : wrap64 (m + 1 + 1) = m + 2 := by unfold wrap64; omega
    refine Ev.succ (g := fun k => laws_heldEntryS.l0 k l m (i : Int)) ?_
    simp only [laws_heldEntryS.l0, c1, if_true, Int.natCast_nonneg, rd0 l i hi, hy, w, w1, w2, bne_self_eq_false, Bool.false_eq_true, if_false]
    refine Ev.bind (hmt (m) (by omega) (by omega)) ?_
    (try simp only [if_true, rd0 l i hi, rd1 l i _ hi, List.set_set, Option.bind_some, w1, w2, bne_self_eq_false, Bool.false_eq_true, if_false])
    exact hr
  · intro l m k
    simp only [laws_markEntryS.l0]
    rw [if_neg (by omega)]
  · intro l m k
    simp only [laws_heldEntryS.l0]
    rw [if_neg (by omega)]
end Go.Proofs.Ytblejbgkcgajgaa.Q
end

section
namespace Go.Proofs.Ytblejbgkcgajgaa.Q
open Go.RowKit Go.Proofs.YtblejbgkcgajgaaW.PrintWords Go.Proofs.YtblejbgkcgajgaaW.PrintLast
set_option linter.unusedVariables false
set_option linter.unusedSimpArgs false
theorem rdStr {l : List ByteArray} {i : Nat} (h : i < l.length) : rdOf ByteArray.empty l (i : Int) = l[i] := by
  simp [rdOf, List.getD_eq_getElem?_getD, List.getElem?_eq_getElem h]
theorem eqStringS_ev (l : List ByteArray) (hl : l.length ≤ 1048576) : Ev (fun k => laws_eqStringS.f k l l) true := by
  obtain ⟨b, hb, h⟩ := ev_same_loop (L := fun k i => laws_eqStringS.l0 k l l i) (xs := l) (ys := l) rfl (fun i h1 h2 e k => by
    have c1 : (i : Int) < (l.length : Int) := by omega
    simp only [laws_eqStringS.l0, rdStr h1, c1, Int.natCast_nonneg, if_true, wrap_i (show i < 4611686018427387904 by omega)]) (fun i h1 h2 e k => absurd rfl e) (fun k => by
    simp only [laws_eqStringS.l0]
    rw [if_neg (by omega)])
  obtain rfl : b = true := h.mpr rfl
  exact Ev.congr (f := fun k => laws_eqStringS.l0 k l l 0) (fun k => by unfold laws_eqStringS.f; rw [if_pos rfl]) hb
end Go.Proofs.Ytblejbgkcgajgaa.Q
end

section
namespace Go.Proofs.Ytblejbgkcgajgaa.Q
open Go.RowKit Go.Proofs.YtblejbgkcgajgaaW.PrintWords Go.Proofs.YtblejbgkcgajgaaW.PrintLast
set_option linter.unusedVariables false
set_option linter.unusedSimpArgs false
theorem markStringS_ev (l : List ByteArray) (m : Int) (hl : l.length ≤ 1048576) (h0 : 0 ≤ m) (hm : m + 1 * l.length ≤ 900000000) :
    ∃ l', l'.length = l.length ∧ Ev (fun k => laws_markStringS.f k l m) (m + 1 * l.length, l') ∧ Ev (fun k => laws_heldStringS.f k l' m) (m + 1 * l.length) := by
  obtain ⟨mt, hmt⟩ := markTexts
  refine ev_mark_loop (L := laws_markStringS.l0) (H := laws_heldStringS.l0) (mk := fun _ m => mt m) (c := 1) (by omega) ?_ ?_ ?_ ?_ l m hl h0 hm
  · intro l m i hi hl h0 hm r hr
    have c1 : (i : Int) < (l.length : Int) := by omega
    have w := wrap_i (show i < 4611686018427387904 by omega)
    have w1 : wrap64 (m + 1) = m + 1 := by unfold wrap64; omega
    refine Ev.succ (g := fun k => laws_markStringS.l0 k l m (i : Int)) ?_
    simp only [laws_markStringS.l0, c1, if_true, Int.natCast_nonneg, Int.toNat_natCast, w, w1]
    refine Ev.bind (hmt m (by omega) (by omega)) ?_
    exact hr
  · intro l m i hi y hy hl h0 hm r hr
    have c1 : (i : Int) < (l.length : Int) := by omega
    have w := wrap_i (show i < 4611686018427387904 by omega)
    have w1 : wrap64 (m + 1) = m + 1 := by unfold wrap64; omega
    refine Ev.succ (g := fun k => laws_heldStringS.l0 k l m (i : Int)) ?_
    simp only [laws_heldStringS.l0, c1, if_true, Int.natCast_nonneg, rdStr hi, hy, w, w1]
    refine Ev.bind (hmt m (by omega) (by omega)) ?_
    simp only [if_true]
    exact hr
  · intro l m k
    simp only [laws_markStringS.l0]
    rw [if_neg (by omega)]
  · intro l m k
    simp only [laws_heldStringS.l0]
    rw [if_neg (by omega)]
end Go.Proofs.Ytblejbgkcgajgaa.Q
end

section
namespace Go.Proofs.Ytblejbgkcgajgaa.Pure
open Go.RowKit Go.Proofs.Ytblejbgkcgajgaa.Q Go.Proofs.YtblejbgkcgajgaaW.PrintWords Go.Proofs.YtblejbgkcgajgaaW.PrintLast
set_option linter.unusedVariables false
set_option linter.unusedSimpArgs false
theorem rebase_both (a b c : List S55) (ha : a.length ≤ 1048576) (hb : b.length ≤ 1048576) (hc : c.length ≤ 1048576) :
    ∃ m s e, Ev (fun k => spec_Rebase.f k a b c) (m, s, e) ∧ Ev (fun k => impl_Rebase.f k a b c) (m, s, e) ∧ m.length ≤ 1048576 ∧ s.length ≤ 1048576 := by
  obtain ⟨m, s, e, h1, h2, h3, h4, h5, h6⟩ := merge3_both a b c ha hb hc
  by_cases hf : fit3 a b c
  · obtain ⟨f1, f2, f3⟩ := hf
    have c1 : ¬ (a.length : Int) > 4096 := by omega
    have c2 : ¬ (b.length : Int) > 4096 := by omega
    have c3 : ¬ (c.length : Int) > 4096 := by omega
    have hs : ∀ v, Ev (fun k => spec_Rebase.j0 k a b c false) v → Ev (fun k => spec_Rebase.f k a b c) v := fun v h => Ev.congr (fun k => by unfold spec_Rebase.f; rw [if_neg c1, if_neg c2, decide_eq_false c3]) h
    by_cases he : e = 0
    · obtain ⟨g1, g2, g3, _⟩ := h5 he
      have d1 := l01Diff_ev c m (by omega) (by omega)
      have d2 := diff_ev c m (mapB_rise g2) g1 (by omega) (by omega)
      have d3 := diffM_len c m
      refine ⟨diffM c m, [], 0, hs _ (Ev.succ ?_), ?_, by omega, by simp⟩
      · simp only [spec_Rebase.j0, Bool.false_eq_true, if_false]
        refine Ev.bind h1 ?_
        simp only [if_pos he]
        exact Ev.bind d1 (Ev.now _)
      · unfold impl_Rebase.f
        refine Ev.bind h2 ?_
        simp only [if_pos he]
        exact Ev.bind d2 (Ev.now _)
    · refine ⟨[], s, e, hs _ (Ev.succ ?_), ?_, by simp, by omega⟩
      · simp only [spec_Rebase.j0, Bool.false_eq_true, if_false]
        refine Ev.bind h1 ?_
        simp only [if_neg he]
        exact Ev.now _
      · unfold impl_Rebase.f
        refine Ev.bind h2 ?_
        simp only [if_neg he]
        exact Ev.now _
  · have g1 := merge3_spec_big hf
    have hb2 : impl_Merge3.f 0 a b c = some ([], [], 2) := by
      have c : ¬ ((2 : Int) = 0) := by decide
      simp only [impl_Merge3.f, areMaps3_big hf, Option.bind_some, if_neg c]
    refine ⟨[], [], 2, Ev.at_ (c := 1) (fun k => ?_), Ev.at_ (c := 0) (fun k => ?_), by simp, by simp⟩
    · unfold spec_Rebase.f
      by_cases c1 : (a.length : Int) > 4096
      · rw [if_pos c1]
        simp only [spec_Rebase.j0, if_true]
      · rw [if_neg c1]
        by_cases c2 : (b.length : Int) > 4096
        · rw [if_pos c2]
          simp only [spec_Rebase.j0, if_true]
        · have c3 : (c.length : Int) > 4096 := by unfold fit3 at hf; omega
          rw [if_neg c2, decide_eq_true c3]
          simp only [spec_Rebase.j0, if_true]
    · have c : ¬ ((2 : Int) = 0) := by decide
      simp only [impl_Rebase.f, impl_Merge3.f, areMaps3_big hf, Option.bind_some, if_neg c]
theorem FnExactRebase : laws_FnExactRebase.Pure := by
  intro l0 l1 l2 w0 w1 w2
  refine Ev.rounds ?_
  unfold laws_FnExactRebase.f
  obtain ⟨r0, hr0, hrl0, hrs0⟩ := szEntryS_ev l0 w0.1 w0.2 1048576 (by omega) (by omega)
  refine Ev.bind hr0 ?_
  by_cases hn0 : r0 < 0
  · simp only [hn0, if_true]
    exact Ev.now _
  simp only [hn0, if_false]
  have hl0 := hrs0 (by omega)
  obtain ⟨r1, hr1, hrl1, hrs1⟩ := szEntryS_ev l1 w1.1 w1.2 r0 (by omega) (by omega)
  refine Ev.bind hr1 ?_
  by_cases hn1 : r1 < 0
  · simp only [hn1, if_true]
    exact Ev.now _
  simp only [hn1, if_false]
  have hl1 := hrs1 (by omega)
  obtain ⟨r2, hr2, hrl2, hrs2⟩ := szEntryS_ev l2 w2.1 w2.2 r1 (by omega) (by omega)
  refine Ev.bind hr2 ?_
  by_cases hn2 : r2 < 0
  · simp only [hn2, if_true]
    exact Ev.now _
  simp only [hn2, if_false]
  have hl2 := hrs2 (by omega)
  have ht0 := toEntryS_ev l0 hl0
  have hm0 : (l0.map cvEntry).length ≤ 1048576 := by simpa using hl0
  have ht1 := toEntryS_ev l1 hl1
  have hm1 : (l1.map cvEntry).length ≤ 1048576 := by simpa using hl1
  have ht2 := toEntryS_ev l2 hl2
  have hm2 : (l2.map cvEntry).length ≤ 1048576 := by simpa using hl2
  obtain ⟨res, str, code, hs, hi, hres, hstr⟩ := rebase_both (l0.map cvEntry) (l1.map cvEntry) (l2.map cvEntry) hm0 hm1 hm2
  have he := eqEditS_ev res hres
  have hes := eqStringS_ev str hstr
  refine Ev.bind ht0 (Ev.bind ht1 (Ev.bind ht2 (Ev.bind hs (Ev.bind ht0 (Ev.bind ht1 (Ev.bind ht2 (Ev.bind hi (Ev.bind he ?_))))))))
  simp only [if_true]
  refine Ev.bind hes ?_
  simp only [if_true, bne_self_eq_false]
  refine Ev.succ ?_
  simp only [laws_FnExactRebase.j0, Bool.false_eq_true, if_false]
  refine Ev.bind ht0 (Ev.bind (eqEntryS_ev _ hm0) ?_)
  simp only [if_true]
  refine Ev.bind ht1 (Ev.bind (eqEntryS_ev _ hm1) ?_)
  simp only [if_true]
  refine Ev.bind ht2 (Ev.bind (eqEntryS_ev _ hm2) ?_)
  simp only [if_true]
  obtain ⟨la0, _, hma0, _⟩ := markEntryS_ev (l0.map cvEntry) (1) hm0 (by omega) (by omega)
  refine Ev.bind hma0 ?_
  simp only []
  obtain ⟨la1, _, hma1, _⟩ := markEntryS_ev (l1.map cvEntry) (1 + 2 * ((l0.map cvEntry).length : Int)) hm1 (by omega) (by omega)
  refine Ev.bind hma1 ?_
  simp only []
  obtain ⟨la2, _, hma2, _⟩ := markEntryS_ev (l2.map cvEntry) (1 + 2 * ((l0.map cvEntry).length : Int) + 2 * ((l1.map cvEntry).length : Int)) hm2 (by omega) (by omega)
  refine Ev.bind hma2 ?_
  have n1 : ¬ (1 + 2 * ((l0.map cvEntry).length : Int) + 2 * ((l1.map cvEntry).length : Int) + 2 * ((l2.map cvEntry).length : Int) < 0) := by omega
  simp only [n1, if_false]
  refine Ev.bind he ?_
  simp only [if_true]
  refine Ev.bind hes ?_
  simp only [if_true, bne_self_eq_false]
  refine Ev.succ ?_
  simp only [laws_FnExactRebase.j1, Bool.false_eq_true, if_false]
  obtain ⟨lr, _, hmR, hhR⟩ := markEditS_ev res 1 hres (by omega) (by omega)
  obtain ⟨ls, _, hmS, hhS⟩ := markStringS_ev str (1 + 3 * (res.length : Int)) hstr (by omega) (by omega)
  have n2 : ¬ (1 + 3 * (res.length : Int) < 0) := by omega
  have n3 : ¬ (1 + 3 * (res.length : Int) + 1 * (str.length : Int) < 0) := by omega
  refine Ev.bind hmR (Ev.bind hmS (Ev.bind hhR ?_))
  simp only [n2, if_false]
  refine Ev.bind hhS ?_
  simp only [n3, if_false, if_true]
  refine Ev.bind ht0 (Ev.bind ht1 (Ev.bind ht2 (Ev.bind hi (Ev.bind he ?_))))
  simp only [if_true]
  refine Ev.bind hes ?_
  simp only [if_true, bne_self_eq_false]
  refine Ev.succ ?_
  simp only [laws_FnExactRebase.j2, Bool.false_eq_true, if_false]
  refine Ev.bind hhR ?_
  simp only [n2, if_false]
  refine Ev.bind hhS ?_
  simp only [n3, if_false, if_true]
  exact Ev.now _
end Go.Proofs.Ytblejbgkcgajgaa.Pure
end
