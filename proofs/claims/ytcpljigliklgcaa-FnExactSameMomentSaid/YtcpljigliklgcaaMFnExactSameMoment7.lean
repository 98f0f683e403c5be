/- Parts of the proof of the law FnExactSameMoment, joined into one text. -/
import Derived.Test.YtcpljigliklgcaaMFnExactSameMoment6
section
namespace Go.Proofs.Ytcpljigliklgcaa.Q
open Go.RowKit Go.Proofs.YtcpljigliklgcaaW.PrintWords Go.Proofs.YtcpljigliklgcaaW.PrintLast
set_option linter.unusedVariables false
set_option linter.unusedSimpArgs false
theorem toStringS_ev (l : List ByteArray) (h : l.length ≤ 1048576) : Ev (fun k => laws_toStringS.f k l) l := by
  refine Ev.congr (f := fun k => laws_toStringS.l0 k l (List.replicate l.length (⟨#[]⟩ : ByteArray)) 0) (fun k => ?_) ?_
  · unfold laws_toStringS.f
    rw [if_pos (by omega), if_pos (by omega)]
    rfl
  · have h2 := ev_map_loop (L := laws_toStringS.l0) (g := fun _ x => some x) (cv := fun x => x) (z := ByteArray.empty) (fun _ _ _ _ => rfl) l (by omega) (fun x _ => Ev.now _) (List.replicate l.length (⟨#[]⟩ : ByteArray)) (by simp)
    simpa using h2
theorem szStringS_ev (l : List ByteArray) (hl : l.length ≤ 9223372036854775807) (hg : ∀ x, x ∈ l → x.size ≤ 9223372036854775807) (left : Int) (h0 : 0 ≤ left) (h1 : left ≤ 1048576) :
    ∃ r, Ev (fun k => laws_szStringS.f k l left) r ∧ r ≤ left ∧ (0 ≤ r → l.length ≤ 1048576) := by
  have hw : wrap64 (left - (l.length : Int)) = left - (l.length : Int) := by unfold wrap64; omega
  by_cases hn : left - (l.length : Int) < 0
  · refine ⟨-1, Ev.congr (f := fun _ => some (-1)) (fun k => ?_) (Ev.now _), by omega, by omega⟩
    unfold laws_szStringS.f
    rw [hw, if_pos hn]
  · obtain ⟨r, hr, hrl⟩ := ev_sz_loop (L := laws_szStringS.l0) (g := fun _ x left => some (wrap64 (left - (x.size : Int)))) (z := ByteArray.empty) (fun _ _ _ _ => rfl) l (by omega) (fun x hx left h0 h1 => by
      have hsz : x.size ≤ 9223372036854775807 := hg x hx
      have hw2 : wrap64 (left - (x.size : Int)) = left - (x.size : Int) := by unfold wrap64; omega
      exact ⟨left - (x.size : Int), Ev.congr (fun k => by rw [hw2]) (Ev.now _), by omega⟩) (left - (l.length : Int)) (by omega) (by omega)
    refine ⟨r, Ev.congr (f := fun k => laws_szStringS.l0 k l (left - (l.length : Int)) 0) (fun k => ?_) hr, by omega, by omega⟩
    unfold laws_szStringS.f
    rw [hw, if_neg hn]
theorem sameTexts_ev (a b : List ByteArray) (ha : a.length ≤ 1048576) : ∃ r, Ev (fun k => spec_l00SameTexts.f k a b) r ∧ (r = true ↔ a = b) := by
  by_cases hl : a.length = b.length
  · have c : (a.length : Int) = (b.length : Int) := by omega
    obtain ⟨r, hr, h⟩ := ev_same_loop (L := fun k i => spec_l00SameTexts.l0 k a b i) hl (fun i h1 h2 e k => by
      have c1 : (i : Int) < (a.length : Int) := by omega
      have c2 : (i : Int) < (b.length : Int) := by omega
      simp only [spec_l00SameTexts.l0, rdStr h1, rdStr h2, c1, c2, Int.natCast_nonneg, if_true, e, wrap_i (show i < 4611686018427387904 by omega)]) (fun i h1 h2 e k => by
      have c1 : (i : Int) < (a.length : Int) := by omega
      have c2 : (i : Int) < (b.length : Int) := by omega
      have e2 : ¬ (a[i].toList = b[i].toList) := fun h => e (toList_inj h)
      simp only [spec_l00SameTexts.l0, rdStr h1, rdStr h2, c1, c2, Int.natCast_nonneg, if_true, e2, if_false]) (fun k => by
      simp only [spec_l00SameTexts.l0]
      rw [if_neg (by omega)])
    exact ⟨r, Ev.congr (f := fun k => spec_l00SameTexts.l0 k a b 0) (fun k => by unfold spec_l00SameTexts.f; rw [if_pos c]) hr, h⟩
  · refine ⟨false, Ev.congr (f := fun _ => some false) (fun k => by unfold spec_l00SameTexts.f; rw [if_neg (by omega)]) (Ev.now _), by simp, fun e => absurd (by rw [e]) hl⟩
theorem equalStr_ev (a b : List ByteArray) (ha : a.length ≤ 1048576) : ∃ r, Ev (fun k => slices_Equal_string_string.f k a b) r ∧ (r = true ↔ a = b) := by
  by_cases hl : a.length = b.length
  · have c : (a.length : Int) = (b.length : Int) := by omega
    obtain ⟨r, hr, h⟩ := ev_same_loop (L := fun k i => slices_Equal_string_string.l0 k a b (a.length : Int) i) hl (fun i h1 h2 e k => by
      have c1 : (i : Int) < (a.length : Int) := by omega
      have c2 : (i : Int) < (b.length : Int) := by omega
      simp only [slices_Equal_string_string.l0, rdStr h1, rdStr h2, c1, c2, Int.natCast_nonneg, if_true, e, wrap_i (show i < 4611686018427387904 by omega)]) (fun i h1 h2 e k => by
      have c1 : (i : Int) < (a.length : Int) := by omega
      have c2 : (i : Int) < (b.length : Int) := by omega
      have e2 : ¬ (a[i].toList = b[i].toList) := fun h => e (toList_inj h)
      simp only [slices_Equal_string_string.l0, rdStr h1, rdStr h2, c1, c2, Int.natCast_nonneg, if_true, e2, if_false]) (fun k => by
      simp only [slices_Equal_string_string.l0]
      rw [if_neg (by omega)])
    exact ⟨r, Ev.congr (f := fun k => slices_Equal_string_string.l0 k a b (a.length : Int) 0) (fun k => by unfold slices_Equal_string_string.f; rw [if_pos c]) hr, h⟩
  · refine ⟨false, Ev.congr (f := fun _ => some false) (fun k => by unfold slices_Equal_string_string.f; rw [if_neg (by omega)]) (Ev.now _), by simp, fun e => absurd (by rw [e]) hl⟩
end Go.Proofs.Ytcpljigliklgcaa.Q
end

section
namespace Go.Proofs.Ytcpljigliklgcaa.Q
open Go.RowKit Go.Proofs.YtcpljigliklgcaaW.PrintWords Go.Proofs.YtcpljigliklgcaaW.PrintLast
set_option linter.unusedVariables false
set_option linter.unusedSimpArgs false
theorem szResult_ev (c m v : Int) (s : List ByteArray) (l : List S125) (g : good81 ⟨c, m, v, s, l⟩) (left : Int) (h0 : 0 ≤ left) (h1 : left ≤ 1048576) :
    ∃ r, Ev (fun k => laws_szResult.f k c m v s l left) r ∧ r ≤ left ∧ (0 ≤ r → s.length ≤ 1048576 ∧ l.length ≤ 1048576) := by
  unfold laws_szResult.f
  obtain ⟨r, hr, hrl, hrs⟩ := szStringS_ev s g.2.2.2.1.1 g.2.2.2.1.2 left h0 h1
  by_cases hn : r < 0
  · exact ⟨-1, by refine Ev.bind hr ?_; simp only [hn, if_true]; exact Ev.now _, by omega, by omega⟩
  · obtain ⟨r', hr', hrl', hrs'⟩ := szEntryS_ev l g.2.2.2.2.1 g.2.2.2.2.2 r (by omega) (by omega)
    by_cases hn' : r' < 0
    · exact ⟨-1, by refine Ev.bind hr ?_; simp only [hn, if_false]; refine Ev.bind hr' ?_; simp only [hn', if_true]; exact Ev.now _, by omega, by omega⟩
    · exact ⟨r', by refine Ev.bind hr ?_; simp only [hn, if_false]; refine Ev.bind hr' ?_; simp only [hn', if_false]; exact Ev.now _, by omega, fun h => ⟨hrs (by omega), hrs' h⟩⟩
theorem toResult_ev (c m v : Int) (s : List ByteArray) (l : List S125) (hs : s.length ≤ 1048576) (h : l.length ≤ 1048576) : Ev (fun k => laws_toResult.f k c m v s l) (c, m, v, s, l.map cvEntry) := by
  unfold laws_toResult.f
  exact Ev.bind (toStringS_ev s hs) (Ev.bind (toEntryS_ev l h) (Ev.now _))
theorem eqResult_ev (c m v : Int) (s : List ByteArray) (l : List S51) (hs : s.length ≤ 1048576) (h : l.length ≤ 1048576) : Ev (fun k => laws_eqResult.f k c m v s l c m v s l) true := by
  unfold laws_eqResult.f
  simp only [if_true]
  refine Ev.bind (eqStringS_ev s hs) ?_
  simp only [if_true]
  refine Ev.bind (eqEntryS_ev l h) ?_
  simp only [if_true]
  exact Ev.now _
theorem sameResult_both (c m v : Int) (s : List ByteArray) (l : List S51) (c' m' v' : Int) (s' : List ByteArray) (l' : List S51) (hs : s.length ≤ 1048576) (h : l.length ≤ 1048576) :
    ∃ r, Ev (fun k => spec_SameResult.f k c m v s l c' m' v' s' l') r ∧ Ev (fun k => impl_SameResult.f k c m v s l c' m' v' s' l') r := by
  obtain ⟨r1, t1, e1⟩ := sameTexts_ev s s' hs
  obtain ⟨r2, t2, e2⟩ := equalStr_ev s s' hs
  obtain rfl : r1 = r2 := bool_eq_of_iff e1 e2
  obtain ⟨q1, u1, f1⟩ := sameMapS_ev l l' h
  obtain ⟨q2, u2, f2⟩ := equalMap_ev l l' h
  obtain rfl : q1 = q2 := bool_eq_of_iff f1 f2
  unfold spec_SameResult.f impl_SameResult.f
  by_cases h1 : (s.length : Int) ≤ 24
  · simp only [h1, if_true, spec_l01OK.f, Option.bind_some]
    have hm := mapOK_ev l (by omega)
    cases hb : mapB l with
    | false =>
      rw [hb] at hm
      refine ⟨false, by simp only [Bool.false_eq_true, if_false]; exact Ev.now _, ?_⟩
      refine Ev.bind hm ?_
      simp only [Bool.false_eq_true, if_false]
      exact Ev.now _
    | true =>
      rw [hb] at hm
      simp only [if_true]
      by_cases h2 : c = c'
      · by_cases h3 : m = m'
        · by_cases h4 : v = v'
          · simp only [h2, h3, h4, if_true]
            refine ⟨r1 && q1, ?_, ?_⟩
            · refine Ev.bind t1 ?_
              cases r1
              · simp only [Bool.false_eq_true, if_false, Bool.false_and]; exact Ev.now _
              · simp only [if_true, Bool.true_and]; exact Ev.bind u1 (Ev.now _)
            · refine Ev.bind hm ?_
              simp only [if_true]
              refine Ev.bind t2 ?_
              cases r1
              · simp only [Bool.false_eq_true, if_false, Bool.false_and]; exact Ev.now _
              · simp only [if_true, Bool.true_and]; exact Ev.bind u2 (Ev.now _)
          · simp only [h2, h3, h4, if_true, if_false]
            exact ⟨false, Ev.now _, Ev.bind hm (Ev.now _)⟩
        · simp only [h2, h3, if_true, if_false]
          exact ⟨false, Ev.now _, Ev.bind hm (Ev.now _)⟩
      · simp only [h2, if_false]
        exact ⟨false, Ev.now _, Ev.bind hm (Ev.now _)⟩
  · simp only [h1, if_false]
    exact ⟨false, Ev.now _, Ev.now _⟩
end Go.Proofs.Ytcpljigliklgcaa.Q
end

section
namespace Go.Proofs.Ytcpljigliklgcaa.Q
open Go.RowKit Go.Proofs.YtcpljigliklgcaaW.PrintWords Go.Proofs.YtcpljigliklgcaaW.PrintLast
set_option linter.unusedVariables false
def cvEdit (x : S142) : S134 := ⟨x.f0, x.f1, x.f2⟩
theorem toEditS_ev (l : List S142) (h : l.length ≤ 1048576) : Ev (fun k => laws_toEditS.f k l) (l.map cvEdit) := by
  refine Ev.congr (f := fun k => laws_toEditS.l0 k l (List.replicate l.length z134) 0) (fun k => ?_) ?_
  · unfold laws_toEditS.f
    rw [if_pos (by omega), if_pos (by omega)]
    rfl
  · exact ev_map_loop (L := laws_toEditS.l0) (g := fun _ x => some (cvEdit x)) (z := z142) (fun _ _ _ _ => rfl) l (by omega) (fun x _ => Ev.now _) _ (by simp)
theorem eqEdit_refl (x : S134) : laws_eqEdit.f x.f0 x.f1 x.f2 x.f0 x.f1 x.f2 = some true := by
  unfold laws_eqEdit.f
  simp
theorem eqEditS_ev (l : List S134) (h : l.length ≤ 1048576) : Ev (fun k => laws_eqEditS.f k l l) true := by
  refine Ev.congr (f := fun k => laws_eqEditS.l0 k l l 0) (fun k => ?_) ?_
  · unfold laws_eqEditS.f
    rw [if_pos rfl]
  · exact ev_refl_loop (L := laws_eqEditS.l0) (g := fun _ x y => laws_eqEdit.f x.f0 x.f1 x.f2 y.f0 y.f1 y.f2) (z := z134) (fun _ _ _ _ => rfl) l (by omega) (fun x _ => Ev.congr (fun _ => eqEdit_refl x) (Ev.now _))
theorem szEditS_ev (l : List S142) (hl : l.length ≤ 9223372036854775807) (hg : ∀ x, x ∈ l → good142 x) (left : Int) (h0 : 0 ≤ left) (h1 : left ≤ 1048576) :
    ∃ r, Ev (fun k => laws_szEditS.f k l left) r ∧ r ≤ left ∧ (0 ≤ r → l.length ≤ 1048576) := by
  have hw : wrap64 (left - (l.length : Int)) = left - (l.length : Int) := by unfold wrap64; omega
  by_cases hn : left - (l.length : Int) < 0
  · refine ⟨-1, Ev.congr (f := fun _ => some (-1)) (fun k => ?_) (Ev.now _), by omega, by omega⟩
    unfold laws_szEditS.f
    rw [hw, if_pos hn]
  · obtain ⟨r, hr, hrl⟩ := ev_sz_loop (L := laws_szEditS.l0) (g := fun _ x left => laws_szEdit.f x.f0 x.f1 x.f2 left) (z := z142) (fun _ _ _ _ => rfl) l (by omega) (fun x hx left h0 h1 => by
      have hsz : x.f0.size ≤ 9223372036854775807 := (hg x hx).1
      have hw2 : wrap64 (left - (x.f0.size : Int)) = left - (x.f0.size : Int) := by unfold wrap64; omega
      by_cases h2 : left - (x.f0.size : Int) < 0
      · refine ⟨-1, Ev.congr (f := fun _ => some (-1)) (fun k => ?_) (Ev.now _), by omega⟩
        unfold laws_szEdit.f
        rw [hw2, if_pos h2]
      · refine ⟨left - (x.f0.size : Int), Ev.congr (f := fun _ => some (left - (x.f0.size : Int))) (fun k => ?_) (Ev.now _), by omega⟩
        unfold laws_szEdit.f
        rw [hw2, if_neg h2]) (left - (l.length : Int)) (by omega) (by omega)
    refine ⟨r, Ev.congr (f := fun k => laws_szEditS.l0 k l (left - (l.length : Int)) 0) (fun k => ?_) hr, by omega, by omega⟩
    unfold laws_szEditS.f
    rw [hw, if_neg hn]
end Go.Proofs.Ytcpljigliklgcaa.Q
end

section
namespace Go.Proofs.Ytcpljigliklgcaa.Q
open Go.RowKit Go.Proofs.YtcpljigliklgcaaW.PrintWords Go.Proofs.YtcpljigliklgcaaW.PrintLast
set_option linter.unusedVariables false
set_option linter.unusedSimpArgs false
theorem szOpL_ev (kind frm : Int) (name key : ByteArray) (l : List S142) (gn : name.size ≤ 9223372036854775807) (gk : key.size ≤ 9223372036854775807) (gl : l.length ≤ 9223372036854775807 ∧ ∀ x, x ∈ l → good142 x) (left : Int) (h0 : 0 ≤ left) (h1 : left ≤ 1048576) :
    ∃ r, Ev (fun k => laws_szOp.f k kind frm name key l left) r ∧ r ≤ left ∧ (0 ≤ r → l.length ≤ 1048576) := by
  unfold laws_szOp.f
  have w0 : wrap64 (left - (name.size : Int)) = left - (name.size : Int) := by unfold wrap64; omega
  by_cases n0 : left - (name.size : Int) < 0
  · exact ⟨-1, by simp only [w0, n0, if_false, if_true]; exact Ev.now _, by omega, by omega⟩
  have w1 : wrap64 (left - (name.size : Int) - (key.size : Int)) = left - (name.size : Int) - (key.size : Int) := by unfold wrap64; omega
  by_cases n1 : left - (name.size : Int) - (key.size : Int) < 0
  · exact ⟨-1, by simp only [w0, w1, n0, n1, if_false, if_true]; exact Ev.now _, by omega, by omega⟩
  obtain ⟨r, hr, hrl, hrs⟩ := szEditS_ev l gl.1 gl.2 (left - (name.size : Int) - (key.size : Int)) (by omega) (by omega)
  by_cases n9 : r < 0
  · exact ⟨-1, by simp only [w0, w1, n0, n1, if_false]; refine Ev.bind hr ?_; simp only [n9, if_true]; exact Ev.now _, by omega, by omega⟩
  · exact ⟨r, by simp only [w0, w1, n0, n1, if_false]; refine Ev.bind hr ?_; simp only [n9, if_false]; exact Ev.now _, by omega, hrs⟩
theorem toOpL_ev (kind frm : Int) (name key : ByteArray) (l : List S142) (h : l.length ≤ 1048576) : Ev (fun k => laws_toOp.f k kind frm name key l) (kind, frm, name, key, l.map cvEdit) := by
  unfold laws_toOp.f
  exact Ev.bind (toEditS_ev l h) (Ev.now _)
theorem eqOpL_ev (kind frm : Int) (name key : ByteArray) (l : List S134) (h : l.length ≤ 1048576) : Ev (fun k => laws_eqOp.f k kind frm name key l kind frm name key l) true := by
  unfold laws_eqOp.f
  simp only [if_true]
  refine Ev.bind (eqEditS_ev l h) ?_
  simp only [if_true]
  exact Ev.now _
end Go.Proofs.Ytcpljigliklgcaa.Q
end

section
namespace Go.Proofs.Ytcpljigliklgcaa.Q
open Go.RowKit Go.Proofs.YtcpljigliklgcaaW.PrintWords Go.Proofs.YtcpljigliklgcaaW.PrintLast
set_option linter.unusedVariables false
set_option linter.unusedSimpArgs false
theorem rdEditE {l : List S134} {i : Nat} (h : i < l.length) : rd_T134 l (i : Int) = l[i] := by
  simp [rd_T134, List.getD_eq_getElem?_getD, List.getElem?_eq_getElem h]
theorem neEdit2 (x y : S134) : ((!(x.f0.toList == y.f0.toList) || (!(x.f1 == y.f1) || !(x.f2 == y.f2))) = true) ↔ x ≠ y := by
  constructor
  · rintro h rfl
    simp at h
  · intro h
    cases h1 : (!(x.f0.toList == y.f0.toList) || (!(x.f1 == y.f1) || !(x.f2 == y.f2))) with
    | true => rfl
    | false =>
      simp only [Bool.or_eq_false_iff, Bool.not_eq_false', beq_iff_eq] at h1
      exfalso
      apply h
      cases x; cases y
      simp only at h1
      obtain ⟨h2, h3, h4⟩ := h1
      rw [toList_inj h2, h3, h4]
theorem sameEditsS_ev (a b : List S134) (ha : a.length ≤ 1048576) : ∃ r, Ev (fun k => spec_l07SameEdits.f k a b) r ∧ (r = true ↔ a = b) := by
  by_cases hl : a.length = b.length
  · have c : (a.length : Int) = (b.length : Int) := by omega
    obtain ⟨r, hr, h⟩ := ev_same_loop (L := fun k i => spec_l07SameEdits.l0 k a b i) hl (fun i h1 h2 e k => by
      have c1 : (i : Int) < (a.length : Int) := by omega
      have c2 : (i : Int) < (b.length : Int) := by omega
      have e2 : ¬ ((!(a[i].f0.toList == b[i].f0.toList) || (!(a[i].f1 == b[i].f1) || !(a[i].f2 == b[i].f2))) = true) := fun h => (neEdit2 _ _).mp h e
      simp only [spec_l07SameEdits.l0, rdEditE h1, rdEditE h2, c1, c2, Int.natCast_nonneg, if_true, e2, Bool.false_eq_true, if_false, wrap_i (show i < 4611686018427387904 by omega)]) (fun i h1 h2 e k => by
      have c1 : (i : Int) < (a.length : Int) := by omega
      have c2 : (i : Int) < (b.length : Int) := by omega
      have e2 := (neEdit2 _ _).mpr e
      simp only [spec_l07SameEdits.l0, rdEditE h1, rdEditE h2, c1, c2, Int.natCast_nonneg, if_true, e2]) (fun k => by
      simp only [spec_l07SameEdits.l0]
      rw [if_neg (by omega)])
    exact ⟨r, Ev.congr (f := fun k => spec_l07SameEdits.l0 k a b 0) (fun k => by unfold spec_l07SameEdits.f; rw [if_pos c]) hr, h⟩
  · refine ⟨false, Ev.congr (f := fun _ => some false) (fun k => by unfold spec_l07SameEdits.f; rw [if_neg (by omega)]) (Ev.now _), by simp, fun e => absurd (by rw [e]) hl⟩
theorem equalEdit_ev (a b : List S134) (ha : a.length ≤ 1048576) : ∃ r, Ev (fun k => impl_Edit_247.f k a b) r ∧ (r = true ↔ a = b) := by
  by_cases hl : a.length = b.length
  · have c : (a.length : Int) = (b.length : Int) := by omega
    obtain ⟨r, hr, h⟩ := ev_same_loop (L := fun k i => impl_Edit_247.l0 k a b (a.length : Int) i) hl (fun i h1 h2 e k => by
      have c1 : (i : Int) < (a.length : Int) := by omega
      have c2 : (i : Int) < (b.length : Int) := by omega
      have e2 : ¬ ((!(a[i].f0.toList == b[i].f0.toList) || (!(a[i].f1 == b[i].f1) || !(a[i].f2 == b[i].f2))) = true) := fun h => (neEdit2 _ _).mp h e
      simp only [impl_Edit_247.l0, rdEditE h1, rdEditE h2, c1, c2, Int.natCast_nonneg, if_true, e2, Bool.false_eq_true, if_false, wrap_i (show i < 4611686018427387904 by omega)]) (fun i h1 h2 e k => by
      have c1 : (i : Int) < (a.length : Int) := by omega
      have c2 : (i : Int) < (b.length : Int) := by omega
      have e2 := (neEdit2 _ _).mpr e
      simp only [impl_Edit_247.l0, rdEditE h1, rdEditE h2, c1, c2, Int.natCast_nonneg, if_true, e2]) (fun k => by
      simp only [impl_Edit_247.l0]
      rw [if_neg (by omega)])
    exact ⟨r, Ev.congr (f := fun k => impl_Edit_247.l0 k a b (a.length : Int) 0) (fun k => by unfold impl_Edit_247.f; rw [if_pos c]) hr, h⟩
  · refine ⟨false, Ev.congr (f := fun _ => some false) (fun k => by unfold impl_Edit_247.f; rw [if_neg (by omega)]) (Ev.now _), by simp, fun e => absurd (by rw [e]) hl⟩
end Go.Proofs.Ytcpljigliklgcaa.Q
end

section
namespace Go.Proofs.Ytcpljigliklgcaa.Q
open Go.RowKit Go.Proofs.YtcpljigliklgcaaW.PrintWords Go.Proofs.YtcpljigliklgcaaW.PrintLast
set_option linter.unusedVariables false
set_option linter.unusedSimpArgs false
theorem editsOK_ev (l : List S134) (hlen : l.length ≤ 1048576) : Ev (fun k => impl_EditsOK.f k l) (editsB l) := by
  have e : editsB l = (allR (edAt l) l.length && decide ((l.length : Int) ≤ 6)) := by
    unfold editsB
    rw [Bool.and_comm]
    congr 1
    by_cases h : l.length ≤ 6
    · rw [decide_eq_true h, decide_eq_true (by omega)]
    · rw [decide_eq_false h, decide_eq_false (by omega)]
  rw [e]
  refine ev_all_loop (L := fun k i => impl_EditsOK.l0 k l l (l.length : Int) i) (p := edAt l) ?_ ?_ ?_
  · intro i hi hb hp
    refine ⟨1, 0, fun k => ?_⟩
    have c1 : (i : Int) < (l.length : Int) := by omega
    have c2 : (0 : Int) ≤ (i : Int) := by omega
    simp only [edAt, edB, Bool.and_eq_true, Bool.or_eq_true, beq_iff_eq, Bool.not_eq_true', Bool.and_eq_false_iff, decide_eq_false_iff_not, ne_eq, Decidable.not_not] at hp
    obtain ⟨⟨⟨h1, h2⟩, h4⟩, h3⟩ := hp
    simp only [impl_EditsOK.l0, impl_NameOK.f, isValue_f, h1, h2, c1, c2, if_true, Option.bind_some, wrap_i (show i < 4611686018427387904 by omega), Nat.add_zero]
    have goal2 : (if (i : Int) > 0 then (if 0 ≤ (wrap64 ((i : Int) - 1)) then (if (wrap64 ((i : Int) - 1)) < (l.length : Int) then (if ((Op.bytesLess (((rd_T134 l (wrap64 ((i : Int) - 1))).f0).toList) (((rd_T134 l (i : Int)).f0).toList)) = true) then (impl_EditsOK.l0 k l l (l.length : Int) ((i + 1 : Nat) : Int)) else (some false)) else (none)) else (none)) else (impl_EditsOK.l0 k l l (l.length : Int) ((i + 1 : Nat) : Int))) = impl_EditsOK.l0 k l l (l.length : Int) ((i + 1 : Nat) : Int) := by
      rcases Nat.eq_zero_or_pos i with h0 | h0
      · subst h0
        simp
      · have c3 : (i : Int) > 0 := by omega
        have w1 := wrap_1 c2 (by omega)
        have c4 : (0 : Int) ≤ (i : Int) - 1 := by omega
        have c5 : (i : Int) - 1 < (l.length : Int) := by omega
        rcases h3 with h3 | h3
        · omega
        · have h3' : Op.bytesLess (rd_T134 l ((i : Int) - 1)).f0.toList (rd_T134 l (i : Int)).f0.toList = true := h3
          simp only [c3, w1, c4, c5, h3', if_true]
    cases h5 : (rd_T134 l (i : Int)).f2 with
    | true =>
      rw [h5] at h4
      have h6 : (rd_T134 l (i : Int)).f1 = 0 := by simpa using h4
      simp only [if_true, h6]
      exact goal2
    | false =>
      simp only [Bool.false_eq_true, if_false]
      exact goal2
  · intro i hi hb hp
    refine ⟨1, fun k => ?_⟩
    have c1 : (i : Int) < (l.length : Int) := by omega
    have c2 : (0 : Int) ≤ (i : Int) := by omega
    simp only [impl_EditsOK.l0, impl_NameOK.f, isValue_f, c1, c2, if_true, Option.bind_some]
    cases h1 : nameB (rd_T134 l (i : Int)).f0 with
    | false => simp
    | true =>
      cases h2 : inB (rd_T134 l (i : Int)).f1 (-1000000) 1000000 with
      | false => simp
      | true =>
        simp only [if_true]
        have goal2 : (i == 0 || sblt (rd_T134 l ((i : Int) - 1)).f0 (rd_T134 l (i : Int)).f0) = false → (if (i : Int) > 0 then (if 0 ≤ (wrap64 ((i : Int) - 1)) then (if (wrap64 ((i : Int) - 1)) < (l.length : Int) then (if ((Op.bytesLess (((rd_T134 l (wrap64 ((i : Int) - 1))).f0).toList) (((rd_T134 l (i : Int)).f0).toList)) = true) then (impl_EditsOK.l0 k l l (l.length : Int) (wrap64 ((i : Int) + 1))) else (some false)) else (none)) else (none)) else (impl_EditsOK.l0 k l l (l.length : Int) (wrap64 ((i : Int) + 1)))) = some false := by
          intro h3
          simp only [Bool.or_eq_false_iff, beq_eq_false_iff_ne] at h3
          have c3 : (i : Int) > 0 := by omega
          have w1 := wrap_1 c2 (by omega)
          have c4 : (0 : Int) ≤ (i : Int) - 1 := by omega
          have c5 : (i : Int) - 1 < (l.length : Int) := by omega
          have h3' : Op.bytesLess (rd_T134 l ((i : Int) - 1)).f0.toList (rd_T134 l (i : Int)).f0.toList = false := h3.2
          simp only [c3, w1, c4, c5, h3', if_true, Bool.false_eq_true, if_false]
        simp only [edAt, edB, h1, h2, Bool.true_and] at hp
        cases h5 : (rd_T134 l (i : Int)).f2 with
        | true =>
          simp only [if_true]
          by_cases h6 : (rd_T134 l (i : Int)).f1 = 0
          · simp only [h6, if_true]
            refine goal2 ?_
            simpa [h5, h6] using hp
          · simp only [h6, if_false]
        | false =>
          simp only [Bool.false_eq_true, if_false]
          refine goal2 ?_
          simpa [h5] using hp
  · refine Ev.at_ (c := 1) (fun k => ?_)
    simp only [impl_EditsOK.l0]
    rw [if_neg (by omega)]
end Go.Proofs.Ytcpljigliklgcaa.Q
end

section
namespace Go.Proofs.Ytcpljigliklgcaa.Pure
open Go.RowKit Go.Proofs.Ytcpljigliklgcaa.Q Go.Proofs.YtcpljigliklgcaaW.PrintWords Go.Proofs.YtcpljigliklgcaaW.PrintLast
set_option linter.unusedVariables false
set_option linter.unusedSimpArgs false
theorem szMoment_ev (c m v kind frm : Int) (name key : ByteArray) (ed : List S142) (c2 m2 v2 : Int) (tx : List ByteArray) (en : List S125) (g : good83 ⟨c, m, v, ⟨kind, frm, name, key, ed⟩, ⟨c2, m2, v2, tx, en⟩⟩) (left : Int) (h0 : 0 ≤ left) (h1 : left ≤ 1048576) :
    ∃ r, Ev (fun k => laws_szMoment.f k c m v kind frm name key ed c2 m2 v2 tx en left) r ∧ r ≤ left ∧ (0 ≤ r → ed.length ≤ 1048576 ∧ tx.length ≤ 1048576 ∧ en.length ≤ 1048576) := by
  unfold laws_szMoment.f
  obtain ⟨g0, g1, g2, g3, g4⟩ := g
  obtain ⟨r, hr, hrl, hrs⟩ := szOpL_ev kind frm name key ed g3.2.2.1 g3.2.2.2.1 g3.2.2.2.2 left h0 h1
  by_cases hn : r < 0
  · exact ⟨-1, by refine Ev.bind hr ?_; simp only [hn, if_true]; exact Ev.now _, by omega, by omega⟩
  · obtain ⟨r', hr', hrl', hrs'⟩ := szResult_ev c2 m2 v2 tx en g4 r (by omega) (by omega)
    by_cases hn' : r' < 0
    · exact ⟨-1, by refine Ev.bind hr ?_; simp only [hn, if_false]; refine Ev.bind hr' ?_; simp only [hn', if_true]; exact Ev.now _, by omega, by omega⟩
    · exact ⟨r', by refine Ev.bind hr ?_; simp only [hn, if_false]; refine Ev.bind hr' ?_; simp only [hn', if_false]; exact Ev.now _, by omega, fun h => ⟨hrs (by omega), hrs' h⟩⟩
theorem toMoment_ev (c m v kind frm : Int) (name key : ByteArray) (ed : List S142) (c2 m2 v2 : Int) (tx : List ByteArray) (en : List S125) (h1 : ed.length ≤ 1048576) (h2 : tx.length ≤ 1048576) (h3 : en.length ≤ 1048576) :
    Ev (fun k => laws_toMoment.f k c m v kind frm name key ed c2 m2 v2 tx en) (c, m, v, kind, frm, name, key, ed.map cvEdit, c2, m2, v2, tx, en.map cvEntry) := by
  unfold laws_toMoment.f
  exact Ev.bind (toOpL_ev kind frm name key ed h1) (Ev.bind (toResult_ev c2 m2 v2 tx en h2 h3) (Ev.now _))
theorem eqMoment_ev (c m v kind frm : Int) (name key : ByteArray) (ed : List S134) (c2 m2 v2 : Int) (tx : List ByteArray) (en : List S51) (h1 : ed.length ≤ 1048576) (h2 : tx.length ≤ 1048576) (h3 : en.length ≤ 1048576) :
    Ev (fun k => laws_eqMoment.f k c m v kind frm name key ed c2 m2 v2 tx en c m v kind frm name key ed c2 m2 v2 tx en) true := by
  unfold laws_eqMoment.f
  simp only [if_true]
  refine Ev.bind (eqOpL_ev kind frm name key ed h1) ?_
  simp only [if_true]
  refine Ev.bind (eqResult_ev c2 m2 v2 tx en h2 h3) ?_
  simp only [if_true]
  exact Ev.now _
theorem sameMoment_both (c m v kind frm : Int) (name key : ByteArray) (ed : List S134) (c2 m2 v2 : Int) (tx : List ByteArray) (en : List S51) (c' m' v' kind' frm' : Int) (name' key' : ByteArray) (ed' : List S134) (c2' m2' v2' : Int) (tx' : List ByteArray) (en' : List S51) (h1 : ed.length ≤ 1048576) (h2 : tx.length ≤ 1048576) (h3 : en.length ≤ 1048576) :
    ∃ r, Ev (fun k => spec_SameMoment.f k c m v kind frm name key ed c2 m2 v2 tx en c' m' v' kind' frm' name' key' ed' c2' m2' v2' tx' en') r ∧ Ev (fun k => impl_SameMoment.f k c m v kind frm name key ed c2 m2 v2 tx en c' m' v' kind' frm' name' key' ed' c2' m2' v2' tx' en') r := by
  obtain ⟨r1, t1, e1⟩ := sameEditsS_ev ed ed' h1
  obtain ⟨r2, t2, e2⟩ := equalEdit_ev ed ed' h1
  obtain rfl : r1 = r2 := bool_eq_of_iff e1 e2
  obtain ⟨q, u1, u2⟩ := sameResult_both c2 m2 v2 tx en c2' m2' v2' tx' en' h2 h3
  obtain ⟨K0, W0⟩ := Ev.many (editsOK_ev ed h1)
  obtain ⟨K1, W1⟩ := Ev.many t1
  obtain ⟨K2, W2⟩ := Ev.many t2
  obtain ⟨K3, W3⟩ := Ev.many u1
  obtain ⟨K4, W4⟩ := Ev.many u2
  refine ⟨editsB ed && (decide (c = c') && (decide (m = m') && (decide (v = v') && (decide (kind = kind') && (decide (frm = frm') && (decide (name.toList = name'.toList) && (decide (key.toList = key'.toList) && (r1 && q)))))))), Ev.from_ (K0 + K1 + K2 + K3 + K4) 1 (fun m_ hm => ?_), Ev.from_ (K0 + K1 + K2 + K3 + K4) 1 (fun m_ hm => ?_)⟩
  all_goals
    have a0 := (W0 m_ (by omega)).2.1
    have a1 := (W1 m_ (by omega)).2.1
    have a2 := (W2 m_ (by omega)).2.1
    have a3 := (W3 m_ (by omega)).2.1
    have a4 := (W4 m_ (by omega)).2.1
    simp only [spec_SameMoment.f, spec_l07SameMoment.f, impl_SameMoment.f, impl_sameOp.f, impl_sameEdits.f, spec_l01Edits.f, a0, a1, a2, a3, a4, Option.bind_some]
    cases editsB ed
    · simp
    by_cases x1 : c = c'
    case neg => simp [x1]
    by_cases x2 : m = m'
    case neg => simp [x1, x2]
    by_cases x3 : v = v'
    case neg => simp [x1, x2, x3]
    by_cases x4 : kind = kind'
    case neg => simp [x1, x2, x3, x4]
    by_cases x5 : frm = frm'
    case neg => simp [x1, x2, x3, x4, x5]
    by_cases x6 : name.toList = name'.toList
    case neg => simp [x1, x2, x3, x4, x5, x6]
    by_cases x7 : key.toList = key'.toList
    case neg => simp [x1, x2, x3, x4, x5, x6, x7]
    cases r1
    · simp [x1, x2, x3, x4, x5, x6, x7]
    · simp [x1, x2, x3, x4, x5, x6, x7]
theorem FnExactSameMoment : laws_FnExactSameMoment.Pure := by
  intro c m v kind frm name key ed c2 m2 v2 tx en c' m' v' kind' frm' name' key' ed' c2' m2' v2' tx' en' g g'
  refine Ev.rounds ?_
  unfold laws_FnExactSameMoment.f
  obtain ⟨r, hr, hrl, hrs⟩ := szMoment_ev c m v kind frm name key ed c2 m2 v2 tx en g 1048576 (by omega) (by omega)
  refine Ev.bind hr ?_
  by_cases hn : r < 0
  · simp only [hn, if_true]
    exact Ev.now _
  simp only [hn, if_false]
  obtain ⟨hl1, hl2, hl3⟩ := hrs (by omega)
  obtain ⟨r', hr', hrl', hrs'⟩ := szMoment_ev c' m' v' kind' frm' name' key' ed' c2' m2' v2' tx' en' g' r (by omega) (by omega)
  refine Ev.bind hr' ?_
  by_cases hn' : r' < 0
  · simp only [hn', if_true]
    exact Ev.now _
  simp only [hn', if_false]
  obtain ⟨hm1, hm2, hm3⟩ := hrs' (by omega)
  have ht := toMoment_ev c m v kind frm name key ed c2 m2 v2 tx en hl1 hl2 hl3
  have ht' := toMoment_ev c' m' v' kind' frm' name' key' ed' c2' m2' v2' tx' en' hm1 hm2 hm3
  have k1 : (ed.map cvEdit).length ≤ 1048576 := by simpa using hl1
  have k3 : (en.map cvEntry).length ≤ 1048576 := by simpa using hl3
  have k1' : (ed'.map cvEdit).length ≤ 1048576 := by simpa using hm1
  have k3' : (en'.map cvEntry).length ≤ 1048576 := by simpa using hm3
  obtain ⟨b, hs, hi⟩ := sameMoment_both c m v kind frm name key (ed.map cvEdit) c2 m2 v2 tx (en.map cvEntry) c' m' v' kind' frm' name' key' (ed'.map cvEdit) c2' m2' v2' tx' (en'.map cvEntry) k1 hl2 k3
  refine Ev.bind ht (Ev.bind ht' (Ev.bind hs (Ev.bind ht (Ev.bind ht' (Ev.bind hi ?_)))))
  simp only [bne_self_eq_false, Bool.false_eq_true, if_false]
  refine Ev.bind ht (Ev.bind (eqMoment_ev c m v kind frm name key (ed.map cvEdit) c2 m2 v2 tx (en.map cvEntry) k1 hl2 k3) ?_)
  simp only [if_true]
  refine Ev.bind ht' (Ev.bind (eqMoment_ev c' m' v' kind' frm' name' key' (ed'.map cvEdit) c2' m2' v2' tx' (en'.map cvEntry) k1' hm2 k3') ?_)
  simp only [if_true]
  exact Ev.now _
end Go.Proofs.Ytcpljigliklgcaa.Pure
end
