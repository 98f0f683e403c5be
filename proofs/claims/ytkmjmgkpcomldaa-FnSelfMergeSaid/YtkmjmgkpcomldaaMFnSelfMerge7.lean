/- Parts of the proof of the law FnSelfMerge, joined into one text. -/
import Derived.Test.YtkmjmgkpcomldaaMFnSelfMerge6
section
namespace Go.Proofs.Ytkmjmgkpcomldaa.Q
open Go.RowKit Go.Proofs.YtkmjmgkpcomldaaW.PrintWords Go.Proofs.YtkmjmgkpcomldaaW.PrintLast
set_option linter.unusedVariables false
set_option linter.unusedSimpArgs false
def putE (y : S35) : S66 := ⟨y.f0, y.f1, false⟩
def delE (x : S35) : S66 := ⟨x.f0, 0, true⟩
def diffM : List S35 → List S35 → List S66
  | [], ys => ys.map putE
  | x :: xs, [] => delE x :: xs.map delE
  | x :: xs, y :: ys =>
    if sblt x.f0 y.f0 = true then delE x :: diffM xs (y :: ys)
    else if sblt y.f0 x.f0 = true then putE y :: diffM (x :: xs) ys
    else if x.f1 = y.f1 then diffM xs ys else putE y :: diffM xs ys
termination_by xs ys => xs.length + ys.length
theorem diffM_nil (xs : List S35) : diffM xs [] = xs.map delE := by
  cases xs with
  | nil => simp [diffM]
  | cons x xs => simp [diffM]
theorem riseP_cons {x : S35} {xs : List S35} (h : RiseP (x :: xs)) : (∀ y, y ∈ xs → sblt x.f0 y.f0 = true) ∧ RiseP xs := by
  unfold RiseP at h ⊢
  exact List.pairwise_cons.mp h
theorem diffM_key : ∀ (xs ys : List S35) (e : S66), e ∈ diffM xs ys → (∃ x, x ∈ xs ∧ e.f0 = x.f0) ∨ (∃ y, y ∈ ys ∧ e.f0 = y.f0)
  | [], ys, e, h => by
    unfold diffM at h
    obtain ⟨y, hy, rfl⟩ := List.mem_map.mp h
    exact .inr ⟨y, hy, rfl⟩
  | x :: xs, [], e, h => by
    rw [diffM_nil] at h
    obtain ⟨z, hz, rfl⟩ := List.mem_map.mp h
    exact .inl ⟨z, hz, rfl⟩
  | x :: xs, y :: ys, e, h => by
    unfold diffM at h
    split at h
    · rcases List.mem_cons.mp h with rfl | h
      · exact .inl ⟨x, List.mem_cons_self, rfl⟩
      · rcases diffM_key xs (y :: ys) e h with ⟨z, hz, hk⟩ | hk
        · exact .inl ⟨z, List.mem_cons_of_mem _ hz, hk⟩
        · exact .inr hk
    · split at h
      · rcases List.mem_cons.mp h with rfl | h
        · exact .inr ⟨y, List.mem_cons_self, rfl⟩
        · rcases diffM_key (x :: xs) ys e h with hk | ⟨z, hz, hk⟩
          · exact .inl hk
          · exact .inr ⟨z, List.mem_cons_of_mem _ hz, hk⟩
      · have hrec : ∀ e, e ∈ diffM xs ys → (∃ z, z ∈ x :: xs ∧ e.f0 = z.f0) ∨ (∃ z, z ∈ y :: ys ∧ e.f0 = z.f0) := by
          intro e h
          rcases diffM_key xs ys e h with ⟨z, hz, hk⟩ | ⟨z, hz, hk⟩
          · exact .inl ⟨z, List.mem_cons_of_mem _ hz, hk⟩
          · exact .inr ⟨z, List.mem_cons_of_mem _ hz, hk⟩
        split at h
        · exact hrec e h
        · rcases List.mem_cons.mp h with rfl | h
          · exact .inr ⟨y, List.mem_cons_self, rfl⟩
          · exact hrec e h
termination_by xs ys => xs.length + ys.length
theorem diffM_rise : ∀ (xs ys : List S35), RiseP xs → RiseP ys → (diffM xs ys).Pairwise (fun a b => sblt a.f0 b.f0 = true)
  | [], ys, _, h => by
    unfold diffM
    rw [List.pairwise_map]
    exact h
  | x :: xs, [], h, _ => by
    rw [diffM_nil, List.pairwise_map]
    exact h
  | x :: xs, y :: ys, h1, h2 => by
    obtain ⟨hx, hx2⟩ := riseP_cons h1
    obtain ⟨hy, hy2⟩ := riseP_cons h2
    unfold diffM
    split
    · rename_i hlt
      refine List.pairwise_cons.mpr ⟨fun e he => ?_, diffM_rise xs (y :: ys) hx2 h2⟩
      rcases diffM_key xs (y :: ys) e he with ⟨z, hz, hk⟩ | ⟨z, hz, hk⟩
      · rw [hk]; exact hx z hz
      · rw [hk]
        rcases List.mem_cons.mp hz with rfl | hz
        · exact hlt
        · exact sblt_trans hlt (hy z hz)
    · rename_i hnlt
      split
      · rename_i hlt
        refine List.pairwise_cons.mpr ⟨fun e he => ?_, diffM_rise (x :: xs) ys h1 hy2⟩
        rcases diffM_key (x :: xs) ys e he with ⟨z, hz, hk⟩ | ⟨z, hz, hk⟩
        · rw [hk]
          rcases List.mem_cons.mp hz with rfl | hz
          · exact hlt
          · exact sblt_trans hlt (hx z hz)
        · rw [hk]; exact hy z hz
      · rename_i hnlt2
        have he0 : x.f0 = y.f0 := sblt_tri (Bool.not_eq_true _ ▸ hnlt) (Bool.not_eq_true _ ▸ hnlt2)
        split
        · exact diffM_rise xs ys hx2 hy2
        · refine List.pairwise_cons.mpr ⟨fun e he => ?_, diffM_rise xs ys hx2 hy2⟩
          rcases diffM_key xs ys e he with ⟨z, hz, hk⟩ | ⟨z, hz, hk⟩
          · rw [hk]
            show sblt y.f0 z.f0 = true
            rw [← he0]; exact hx z hz
          · rw [hk]; exact hy z hz
termination_by xs ys => xs.length + ys.length
def newE (xs : List S35) (y : S35) : List S66 := if xs.any (fun x => decide (x.f0 = y.f0) && decide (x.f1 = y.f1)) then [] else [putE y]
def oldE (ys : List S35) (x : S35) : List S66 := if ys.any (fun y => decide (y.f0 = x.f0)) then [] else [delE x]
theorem newE_skip {x : S35} {xs : List S35} {y : S35} (h : x.f0 ≠ y.f0) : newE (x :: xs) y = newE xs y := by
  unfold newE
  rw [List.any_cons, decide_eq_false h, Bool.false_and, Bool.false_or]
theorem oldE_skip {y : S35} {ys : List S35} {x : S35} (h : y.f0 ≠ x.f0) : oldE (y :: ys) x = oldE ys x := by
  unfold oldE
  rw [List.any_cons, decide_eq_false h, Bool.false_or]
theorem flatMap_congr_ {α β : Type} {f g : α → List β} : ∀ {l : List α}, (∀ x, x ∈ l → f x = g x) → l.flatMap f = l.flatMap g
  | [], _ => rfl
  | x :: xs, h => by rw [List.flatMap_cons, List.flatMap_cons, h x List.mem_cons_self, flatMap_congr_ (fun y hy => h y (List.mem_cons_of_mem _ hy))]
theorem flatMap_one {α β : Type} {g : α → β} : ∀ (l : List α), l.flatMap (fun x => [g x]) = l.map g
  | [] => rfl
  | x :: xs => by rw [List.flatMap_cons, flatMap_one xs]; rfl
theorem diffM_perm : ∀ (xs ys : List S35), RiseP xs → RiseP ys → (ys.flatMap (newE xs) ++ xs.flatMap (oldE ys)).Perm (diffM xs ys)
  | [], ys, _, _ => by
    have e : ys.flatMap (newE []) = ys.map putE := by
      rw [← flatMap_one]
      exact flatMap_congr_ (fun y _ => by simp [newE])
    rw [List.flatMap_nil, List.append_nil, e]
    unfold diffM
    exact List.Perm.refl _
  | x :: xs, [], _, _ => by
    rw [diffM_nil, List.flatMap_nil, List.nil_append, ← flatMap_one]
    rw [flatMap_congr_ (g := fun x => [delE x]) (fun y _ => by simp [oldE])]
  | x :: xs, y :: ys, h1, h2 => by
    obtain ⟨hx, hx2⟩ := riseP_cons h1
    obtain ⟨hy, hy2⟩ := riseP_cons h2
    unfold diffM
    split
    · rename_i hlt
      have hall : ∀ z, z ∈ y :: ys → x.f0 ≠ z.f0 := by
        intro z hz
        rcases List.mem_cons.mp hz with rfl | hz
        · exact sblt_ne hlt
        · exact sblt_ne (sblt_trans hlt (hy z hz))
      have e1 : (y :: ys).flatMap (newE (x :: xs)) = (y :: ys).flatMap (newE xs) := flatMap_congr_ (fun z hz => newE_skip (hall z hz))
      have e2 : oldE (y :: ys) x = [delE x] := by
        unfold oldE
        rw [if_neg]
        intro h
        obtain ⟨z, hz, hk⟩ := List.any_eq_true.mp h
        exact hall z hz (of_decide_eq_true hk).symm
      rw [e1, List.flatMap_cons (f := oldE (y :: ys)), e2]
      exact (List.perm_middle).trans ((diffM_perm xs (y :: ys) hx2 h2).cons _)
    · rename_i hnlt
      split
      · rename_i hlt
        have hall : ∀ z, z ∈ x :: xs → y.f0 ≠ z.f0 := by
          intro z hz
          rcases List.mem_cons.mp hz with rfl | hz
          · exact sblt_ne hlt
          · exact sblt_ne (sblt_trans hlt (hx z hz))
        have e1 : (x :: xs).flatMap (oldE (y :: ys)) = (x :: xs).flatMap (oldE ys) := flatMap_congr_ (fun z hz => oldE_skip (hall z hz))
        have e2 : newE (x :: xs) y = [putE y] := by
          unfold newE
          rw [if_neg]
          intro h
          obtain ⟨z, hz, hk⟩ := List.any_eq_true.mp h
          rw [Bool.and_eq_true, decide_eq_true_eq] at hk
          exact hall z hz hk.1.symm
        rw [e1, List.flatMap_cons (f := newE (x :: xs)), e2]
        exact (diffM_perm (x :: xs) ys h1 hy2).cons _
      · rename_i hnlt2
        have he0 : x.f0 = y.f0 := sblt_tri (Bool.not_eq_true _ ▸ hnlt) (Bool.not_eq_true _ ▸ hnlt2)
        have e1 : ys.flatMap (newE (x :: xs)) = ys.flatMap (newE xs) := flatMap_congr_ (fun z hz => newE_skip (by rw [he0]; exact sblt_ne (hy z hz)))
        have e2 : xs.flatMap (oldE (y :: ys)) = xs.flatMap (oldE ys) := flatMap_congr_ (fun z hz => oldE_skip (by rw [← he0]; exact sblt_ne (hx z hz)))
        have e3 : oldE (y :: ys) x = [] := by
          unfold oldE
          rw [List.any_cons, decide_eq_true he0.symm, Bool.true_or, if_pos rfl]
        have hr := diffM_perm xs ys hx2 hy2
        rw [List.flatMap_cons, List.flatMap_cons, e1, e2, e3, List.nil_append]
        split
        · rename_i hv
          have e4 : newE (x :: xs) y = [] := by
            unfold newE
            rw [List.any_cons, decide_eq_true he0, decide_eq_true hv, Bool.and_self, Bool.true_or, if_pos rfl]
          rw [e4, List.nil_append]
          exact hr
        · rename_i hv
          have e4 : newE (x :: xs) y = [putE y] := by
            unfold newE
            rw [if_neg]
            intro h
            obtain ⟨z, hz, hk⟩ := List.any_eq_true.mp h
            rw [Bool.and_eq_true, decide_eq_true_eq, decide_eq_true_eq] at hk
            rcases List.mem_cons.mp hz with rfl | hz
            · exact hv hk.2
            · exact sblt_ne (hx z hz) (he0.trans hk.1.symm)
          rw [e4]
          exact hr.cons _
termination_by xs ys => xs.length + ys.length
theorem sort_unique {l m : List S66} (hp : l.Perm m) (hm : m.Pairwise (fun a b => sblt a.f0 b.f0 = true)) : sortE l = m := by
  obtain ⟨h1, h2⟩ := sortE_is l
  have h3 : (sortE l).Perm m := h1.trans hp
  refine List.Perm.eq_of_pairwise (le := fun a b => sblt b.f0 a.f0 = false) ?_ h2 ?_ h3
  · intro a b ha hb k1 k2
    have ha' : a ∈ m := h3.mem_iff.mp ha
    have hk : a.f0 = b.f0 := sblt_tri k2 k1
    rcases List.pairwise_iff_getElem.mp hm with hg
    obtain ⟨i, hi, rfl⟩ := List.mem_iff_getElem.mp ha'
    obtain ⟨j, hj, rfl⟩ := List.mem_iff_getElem.mp hb
    rcases Nat.lt_trichotomy i j with h | h | h
    · exact absurd hk (sblt_ne (hg i j hi hj h))
    · subst h; rfl
    · exact absurd hk.symm (sblt_ne (hg j i hj hi h))
  · exact hm.imp (fun h => sblt_asymm h)
theorem diffM_len : ∀ (xs ys : List S35), (diffM xs ys).length ≤ xs.length + ys.length
  | [], ys => by unfold diffM; rw [List.length_map]; omega
  | x :: xs, [] => by rw [diffM_nil, List.length_map]; omega
  | x :: xs, y :: ys => by
    have h1 := diffM_len xs (y :: ys)
    have h2 := diffM_len (x :: xs) ys
    have h3 := diffM_len xs ys
    simp only [List.length_cons] at *
    unfold diffM
    split
    · simp only [List.length_cons]; omega
    · split
      · simp only [List.length_cons]; omega
      · split
        · omega
        · simp only [List.length_cons]; omega
termination_by xs ys => xs.length + ys.length
theorem sblt_is (a b : ByteArray) : Op.bytesLess a.toList b.toList = sblt a b := rfl
theorem l01Diff_end (a b : List S35) (acc : List S66) : Ev (fun q => spec_l01Diff.l0 q a b acc (a.length : Int) (b.length : Int)) (acc ++ diffM (a.drop a.length) (b.drop b.length)) := by
  refine Ev.at_ (c := 2) (fun q => ?_)
  have c1 : ¬ ((a.length : Int) < (a.length : Int)) := by omega
  have c2 : ¬ ((b.length : Int) < (b.length : Int)) := by omega
  simp only [spec_l01Diff.l0, spec_l01Diff.j1, if_neg c1, decide_eq_false c2, Bool.false_eq_true, if_false, List.drop_length]
  unfold diffM
  simp
theorem l01Diff_loop (a b : List S35) (ha : a.length ≤ 1048576) (hb : b.length ≤ 1048576) : ∀ (d i j : Nat) (acc : List S66), i ≤ a.length → j ≤ b.length → (a.length - i) + (b.length - j) ≤ d → acc.length + d ≤ 100000000 →
    Ev (fun q => spec_l01Diff.l0 q a b acc (i : Int) (j : Int)) (acc ++ diffM (a.drop i) (b.drop j)) := by
  intro d
  induction d with
  | zero =>
    intro i j acc hi hj hd _
    obtain rfl : i = a.length := by omega
    obtain rfl : j = b.length := by omega
    exact l01Diff_end a b acc
  | succ d ih =>
    intro i j acc hi hj hd hacc
    have hlen : acc.length < 4398046511104 := by omega
    have i0 : (0 : Int) ≤ (i : Int) := Int.natCast_nonneg _
    have j0 : (0 : Int) ≤ (j : Int) := Int.natCast_nonneg _
    have wi := wrap_i (show i < 4611686018427387904 by omega)
    have wj := wrap_i (show j < 4611686018427387904 by omega)
    have hap : ∀ (acc : List S66) (e : S66) (l : List S66), acc ++ e :: l = (acc ++ [e]) ++ l := fun acc e l => by simp
    by_cases hil : i < a.length
    · have ci : (i : Int) < (a.length : Int) := by omega
      have ri : rd_T35 a (i : Int) = a[i] := rdEntry hil
      have da : a.drop i = a[i] :: a.drop (i + 1) := List.drop_eq_getElem_cons hil
      by_cases hjl : j < b.length
      · have cj : (j : Int) < (b.length : Int) := by omega
        have cj2 : ¬ ((j : Int) = (b.length : Int)) := by omega
        have rj : rd_T35 b (j : Int) = b[j] := rdEntry hjl
        have db : b.drop j = b[j] :: b.drop (j + 1) := List.drop_eq_getElem_cons hjl
        have ci2 : ¬ ((i : Int) = (a.length : Int)) := by omega
        rw [da, db]
        unfold diffM
        by_cases h1 : sblt a[i].f0 b[j].f0 = true
        · rw [if_pos h1, hap, ← db]
          refine Ev.shift (c := 3) (d := 0) (fun q => ?_) (ih (i + 1) j (acc ++ [delE a[i]]) (by omega) hj (by omega) (by rw [List.length_append]; simp only [List.length_cons, List.length_nil]; omega))
          simp only [spec_l01Diff.l0, spec_l01Diff.j1, spec_l01Diff.j2, if_pos ci, if_true, if_neg cj2, if_pos i0, if_pos j0, if_pos cj, ri, rj, sblt_is, h1, if_pos hlen, wi, Nat.add_zero, delE]
        · rw [if_neg h1]
          have h1f : sblt a[i].f0 b[j].f0 = false := Bool.not_eq_true _ ▸ h1
          by_cases h2 : sblt b[j].f0 a[i].f0 = true
          · rw [if_pos h2, hap, ← da]
            refine Ev.shift (c := 4) (d := 0) (fun q => ?_) (ih i (j + 1) (acc ++ [putE b[j]]) hi (by omega) (by omega) (by rw [List.length_append]; simp only [List.length_cons, List.length_nil]; omega))
            simp only [spec_l01Diff.l0, spec_l01Diff.j1, spec_l01Diff.j2, spec_l01Diff.j3, if_pos ci, if_true, if_neg cj2, if_pos i0, if_pos j0, if_pos cj, ri, rj, sblt_is, h1f, Bool.false_eq_true, if_false, if_neg ci2, h2, if_pos hlen, wj, Nat.add_zero, putE]
          · rw [if_neg h2]
            have h2f : sblt b[j].f0 a[i].f0 = false := Bool.not_eq_true _ ▸ h2
            by_cases h3 : a[i].f1 = b[j].f1
            · rw [if_pos h3]
              refine Ev.shift (c := 4) (d := 0) (fun q => ?_) (ih (i + 1) (j + 1) acc (by omega) (by omega) (by omega) (by omega))
              simp only [spec_l01Diff.l0, spec_l01Diff.j1, spec_l01Diff.j2, spec_l01Diff.j3, if_pos ci, if_true, if_neg cj2, if_pos i0, if_pos j0, if_pos cj, ri, rj, sblt_is, h1f, Bool.false_eq_true, if_false, if_neg ci2, h2f, if_pos h3, wi, wj, Nat.add_zero]
            · rw [if_neg h3, hap]
              refine Ev.shift (c := 4) (d := 0) (fun q => ?_) (ih (i + 1) (j + 1) (acc ++ [putE b[j]]) (by omega) (by omega) (by omega) (by rw [List.length_append]; simp only [List.length_cons, List.length_nil]; omega))
              simp only [spec_l01Diff.l0, spec_l01Diff.j1, spec_l01Diff.j2, spec_l01Diff.j3, if_pos ci, if_true, if_neg cj2, if_pos i0, if_pos j0, if_pos cj, ri, rj, sblt_is, h1f, Bool.false_eq_true, if_false, if_neg ci2, h2f, if_neg h3, if_pos hlen, wi, wj, Nat.add_zero, putE]
      · obtain rfl : j = b.length := by omega
        have hr := ih (i + 1) b.length (acc ++ [delE a[i]]) (by omega) hj (by omega) (by rw [List.length_append]; simp only [List.length_cons, List.length_nil]; omega)
        rw [List.drop_length, diffM_nil] at hr ⊢
        rw [da, List.map_cons, hap]
        refine Ev.shift (c := 3) (d := 0) (fun q => ?_) hr
        simp only [spec_l01Diff.l0, spec_l01Diff.j1, spec_l01Diff.j2, if_pos ci, if_true, if_pos i0, ri, if_pos hlen, wi, Nat.add_zero, delE]
    · obtain rfl : i = a.length := by omega
      by_cases hjl : j < b.length
      case neg =>
        obtain rfl : j = b.length := by omega
        exact l01Diff_end a b acc
      have ci : ¬ ((a.length : Int) < (a.length : Int)) := by omega
      have cj : (j : Int) < (b.length : Int) := by omega
      have cj2 : ¬ ((j : Int) = (b.length : Int)) := by omega
      have rj : rd_T35 b (j : Int) = b[j] := rdEntry hjl
      have db : b.drop j = b[j] :: b.drop (j + 1) := List.drop_eq_getElem_cons hjl
      have hr := ih a.length (j + 1) (acc ++ [putE b[j]]) hi (by omega) (by omega) (by rw [List.length_append]; simp only [List.length_cons, List.length_nil]; omega)
      have e0 : ∀ l : List S35, diffM [] l = l.map putE := fun l => by unfold diffM; rfl
      rw [List.drop_length, e0] at hr ⊢
      rw [db, List.map_cons, hap]
      refine Ev.shift (c := 4) (d := 0) (fun q => ?_) hr
      simp only [spec_l01Diff.l0, spec_l01Diff.j1, spec_l01Diff.j2, spec_l01Diff.j3, if_neg ci, decide_eq_true cj, if_true, if_neg cj2, Bool.false_eq_true, if_false, if_pos j0, if_pos cj, rj, if_pos hlen, wj, Nat.add_zero, putE]
theorem l01Diff_ev (a b : List S35) (ha : a.length ≤ 1048576) (hb : b.length ≤ 1048576) : Ev (fun q => spec_l01Diff.f q a b) (diffM a b) := by
  have h := l01Diff_loop a b ha hb (a.length + b.length) 0 0 [] (Nat.zero_le _) (Nat.zero_le _) (by omega) (by simp only [List.length_nil]; omega)
  rw [List.drop_zero, List.drop_zero, List.nil_append] at h
  exact h
theorem newE_found {a : List S35} {y : S35} {t : Nat} (h : RiseP a) (ht : t < a.length) (hk : a[t].f0 = y.f0) : newE a y = if a[t].f1 = y.f1 then [] else [putE y] := by
  unfold newE
  by_cases hv : a[t].f1 = y.f1
  · rw [if_pos hv, if_pos]
    exact List.any_eq_true.mpr ⟨a[t], List.getElem_mem ht, by rw [decide_eq_true hk, decide_eq_true hv]; rfl⟩
  · rw [if_neg hv, if_neg]
    intro hh
    obtain ⟨z, hz, hq⟩ := List.any_eq_true.mp hh
    rw [Bool.and_eq_true, decide_eq_true_eq, decide_eq_true_eq] at hq
    obtain ⟨s, hs, rfl⟩ := List.mem_iff_getElem.mp hz
    have e1 := (find_some h hs hq.1).1
    have e2 := (find_some h ht hk).1
    obtain rfl : s = t := by rw [← e1, e2]
    exact hv hq.2
theorem newE_none {a : List S35} {y : S35} (h : ∀ i (hi : i < a.length), a[i].f0 ≠ y.f0) : newE a y = [putE y] := by
  unfold newE
  rw [if_neg]
  intro hh
  obtain ⟨z, hz, hq⟩ := List.any_eq_true.mp hh
  rw [Bool.and_eq_true, decide_eq_true_eq] at hq
  obtain ⟨s, hs, rfl⟩ := List.mem_iff_getElem.mp hz
  exact h s hs hq.1
theorem oldE_found {b : List S35} {x : S35} {t : Nat} (ht : t < b.length) (hk : b[t].f0 = x.f0) : oldE b x = [] := by
  unfold oldE
  rw [if_pos]
  exact List.any_eq_true.mpr ⟨b[t], List.getElem_mem ht, decide_eq_true hk⟩
theorem oldE_none {b : List S35} {x : S35} (h : ∀ i (hi : i < b.length), b[i].f0 ≠ x.f0) : oldE b x = [delE x] := by
  unfold oldE
  rw [if_neg]
  intro hh
  obtain ⟨z, hz, hq⟩ := List.any_eq_true.mp hh
  obtain ⟨s, hs, rfl⟩ := List.mem_iff_getElem.mp hz
  exact h s hs (of_decide_eq_true hq)
theorem diff_l1 (a b : List S35) (hra : RiseP a) (hrb : RiseP b) (ha : a.length ≤ 1048576) (hb : b.length ≤ 1048576) : ∀ (d i : Nat) (acc : List S66), i + d = a.length → acc.length + d ≤ 100000000 →
    Ev (fun q => impl_diff.l1 q b acc a (a.length : Int) (i : Int)) (sortE (acc ++ (a.drop i).flatMap (oldE b))) := by
  intro d
  induction d with
  | zero =>
    intro i acc hi hacc
    obtain rfl : i = a.length := by omega
    have c1 : ¬ ((a.length : Int) < (a.length : Int)) := by omega
    have hlen : acc.length < 4611686018427387904 := by omega
    refine Ev.at_ (c := 1) (fun q => ?_)
    rw [List.drop_length, List.flatMap_nil, List.append_nil]
    simp only [impl_diff.l1, if_neg c1, sort_Edit.f, if_pos hlen, Option.bind_some]
  | succ d ih =>
    intro i acc hi hacc
    have hil : i < a.length := by omega
    have c1 : (i : Int) < (a.length : Int) := by omega
    have i0 : (0 : Int) ≤ (i : Int) := Int.natCast_nonneg _
    have ri : rd_T35 a (i : Int) = a[i] := rdEntry hil
    have hlen : acc.length < 4398046511104 := by omega
    have w := wrap_i (show i < 4611686018427387904 by omega)
    rw [List.drop_eq_getElem_cons hil, List.flatMap_cons]
    by_cases hx : ∃ t, ∃ ht : t < b.length, b[t].f0 = a[i].f0
    · obtain ⟨t, ht, hk⟩ := hx
      obtain ⟨e1, e2⟩ := find_some hrb ht hk
      have hf : impl_find.f b a[i].f0 = some ((t : Int), true) := by rw [find_f hrb hb, e1, e2]
      rw [oldE_found ht hk, List.nil_append]
      refine Ev.shift (c := 1) (d := 0) (fun q => ?_) (ih (i + 1) acc (by omega) (by omega))
      simp only [impl_diff.l1, if_pos c1, if_pos i0, ri, hf, Option.bind_some, if_true, w, Nat.add_zero]
    · have hn : ∀ t (ht : t < b.length), b[t].f0 ≠ a[i].f0 := fun t ht hk => hx ⟨t, ht, hk⟩
      have hf : impl_find.f b a[i].f0 = some (((cntN (cmpK a[i].f0) b : Nat) : Int), false) := by rw [find_f hrb hb, find_none hn]
      rw [oldE_none hn, ← List.append_assoc]
      refine Ev.shift (c := 1) (d := 0) (fun q => ?_) (ih (i + 1) (acc ++ [delE a[i]]) (by omega) (by rw [List.length_append]; simp only [List.length_cons, List.length_nil]; omega))
      simp only [impl_diff.l1, if_pos c1, if_pos i0, ri, hf, Option.bind_some, Bool.false_eq_true, if_false, if_pos hlen, w, Nat.add_zero, delE]
theorem diff_l0 (a b : List S35) (hra : RiseP a) (hrb : RiseP b) (ha : a.length ≤ 1048576) (hb : b.length ≤ 1048576) : ∀ (d i : Nat) (acc : List S66), i + d = b.length → acc.length + d ≤ 90000000 →
    Ev (fun q => impl_diff.l0 q a b acc b (b.length : Int) (i : Int)) (sortE (acc ++ ((b.drop i).flatMap (newE a) ++ a.flatMap (oldE b)))) := by
  intro d
  induction d with
  | zero =>
    intro i acc hi hacc
    obtain rfl : i = b.length := by omega
    have c1 : ¬ ((b.length : Int) < (b.length : Int)) := by omega
    have h := diff_l1 a b hra hrb ha hb a.length 0 acc (by omega) (by omega)
    rw [List.drop_zero] at h
    rw [List.drop_length, List.flatMap_nil, List.nil_append]
    refine Ev.shift (c := 1) (d := 0) (fun q => ?_) h
    simp only [impl_diff.l0, if_neg c1, Nat.add_zero]
    rfl
  | succ d ih =>
    intro i acc hi hacc
    have hil : i < b.length := by omega
    have c1 : (i : Int) < (b.length : Int) := by omega
    have i0 : (0 : Int) ≤ (i : Int) := Int.natCast_nonneg _
    have ri : rd_T35 b (i : Int) = b[i] := rdEntry hil
    have hlen : acc.length < 4398046511104 := by omega
    have w := wrap_i (show i < 4611686018427387904 by omega)
    have hadd : ∀ (e : S66) (l : List S66), acc ++ ([e] ++ l ++ a.flatMap (oldE b)) = (acc ++ [e]) ++ (l ++ a.flatMap (oldE b)) := fun e l => by simp
    rw [List.drop_eq_getElem_cons hil, List.flatMap_cons]
    by_cases hx : ∃ t, ∃ ht : t < a.length, a[t].f0 = b[i].f0
    · obtain ⟨t, ht, hk⟩ := hx
      obtain ⟨e1, e2⟩ := find_some hra ht hk
      have hf : impl_find.f a b[i].f0 = some ((t : Int), true) := by rw [find_f hra ha, e1, e2]
      have t0 : (0 : Int) ≤ (t : Int) := Int.natCast_nonneg _
      have t1 : (t : Int) < (a.length : Int) := by omega
      have rt : rd_T35 a (t : Int) = a[t] := rdEntry ht
      rw [newE_found hra ht hk]
      by_cases hv : a[t].f1 = b[i].f1
      · rw [if_pos hv, List.nil_append]
        refine Ev.shift (c := 1) (d := 0) (fun q => ?_) (ih (i + 1) acc (by omega) (by omega))
        simp only [impl_diff.l0, if_pos c1, if_pos i0, ri, hf, Option.bind_some, if_true, if_pos t0, if_pos t1, rt, if_pos hv, w, Nat.add_zero]
      · rw [if_neg hv, hadd]
        refine Ev.shift (c := 1) (d := 0) (fun q => ?_) (ih (i + 1) (acc ++ [putE b[i]]) (by omega) (by rw [List.length_append]; simp only [List.length_cons, List.length_nil]; omega))
        simp only [impl_diff.l0, if_pos c1, if_pos i0, ri, hf, Option.bind_some, if_true, if_pos t0, if_pos t1, rt, if_neg hv, if_pos hlen, w, Nat.add_zero, putE]
    · have hn : ∀ t (ht : t < a.length), a[t].f0 ≠ b[i].f0 := fun t ht hk => hx ⟨t, ht, hk⟩
      have hf : impl_find.f a b[i].f0 = some (((cntN (cmpK b[i].f0) a : Nat) : Int), false) := by rw [find_f hra ha, find_none hn]
      rw [newE_none hn, hadd]
      refine Ev.shift (c := 1) (d := 0) (fun q => ?_) (ih (i + 1) (acc ++ [putE b[i]]) (by omega) (by rw [List.length_append]; simp only [List.length_cons, List.length_nil]; omega))
      simp only [impl_diff.l0, if_pos c1, if_pos i0, ri, hf, Option.bind_some, Bool.false_eq_true, if_false, if_pos hlen, w, Nat.add_zero, putE]
theorem diff_ev (a b : List S35) (hra : RiseP a) (hrb : RiseP b) (ha : a.length ≤ 1048576) (hb : b.length ≤ 1048576) : Ev (fun q => impl_diff.f q a b) (diffM a b) := by
  have h := diff_l0 a b hra hrb ha hb b.length 0 [] (by omega) (by simp only [List.length_nil]; omega)
  rw [List.drop_zero, List.nil_append, sort_unique (diffM_perm a b hra hrb) (diffM_rise a b hra hrb)] at h
  exact h
end Go.Proofs.Ytkmjmgkpcomldaa.Q
end

section
namespace Go.Proofs.Ytkmjmgkpcomldaa.Q
open Go.RowKit Go.Proofs.YtkmjmgkpcomldaaW.PrintWords Go.Proofs.YtkmjmgkpcomldaaW.PrintLast
set_option linter.unusedVariables false
set_option linter.unusedSimpArgs false
theorem cntN_le (c : S35 → Int) (l : List S35) : cntN c l ≤ l.length := List.countP_le_length
theorem cnt_at {l : List S35} (h : RiseP l) (k : ByteArray) : ∀ t (ht : t < l.length), (t < cntN (cmpK k) l ↔ sblt l[t].f0 k = true) := by
  have hp := List.pairwise_iff_getElem.mp h
  -- the first place that is not less
  have key : ∀ d i, i + d = l.length → (∀ t (ht : t < l.length), t < i → sblt l[t].f0 k = true) → ∃ c, c ≤ l.length ∧ (∀ t (ht : t < l.length), t < c → sblt l[t].f0 k = true) ∧ (∀ t (ht : t < l.length), c ≤ t → sblt l[t].f0 k = false) := by
    intro d
    induction d with
    | zero => intro i hi hlo; exact ⟨i, by omega, hlo, fun t ht h2 => by omega⟩
    | succ d ih =>
      intro i hi hlo
      have hl : i < l.length := by omega
      cases hb : sblt l[i].f0 k with
      | true =>
        refine ih (i + 1) (by omega) (fun t ht h2 => ?_)
        rcases Nat.lt_or_eq_of_le (Nat.le_of_lt_succ h2) with h3 | h3
        · exact hlo t ht h3
        · subst h3; exact hb
      | false =>
        refine ⟨i, by omega, hlo, fun t ht h2 => ?_⟩
        rcases Nat.lt_or_eq_of_le h2 with h3 | h3
        · cases hb2 : sblt l[t].f0 k with
          | false => rfl
          | true =>
            have := sblt_trans (hp i t hl ht h3) hb2
            rw [hb] at this
            cases this
        · subst h3; exact hb
  obtain ⟨c, hc, h1, h2⟩ := key l.length 0 (by omega) (fun t ht h2 => absurd h2 (Nat.not_lt_zero _))
  have e : cntN (cmpK k) l = c := by
    refine cntN_is l c hc (fun t ht h3 => (cmpK_lt _ _).mpr (h1 t ht h3)) (fun t ht h3 => ?_)
    have h4 : ¬ cmpK k l[t] < 0 := by
      rw [cmpK_lt, h2 t ht h3]
      simp
    omega
  intro t ht
  rw [e]
  constructor
  · exact h1 t ht
  · intro h3
    rcases Nat.lt_or_ge t c with h4 | h4
    · exact h4
    · rw [h2 t ht h4] at h3
      cases h3
theorem fnd_at {l : List S35} (h : RiseP l) (k : ByteArray) : fndB (cmpK k) l = true ↔ ∃ hc : cntN (cmpK k) l < l.length, (l[cntN (cmpK k) l]'hc).f0 = k := by
  unfold fndB
  constructor
  · intro h1
    cases hx : l[cntN (cmpK k) l]? with
    | none => rw [hx] at h1; cases h1
    | some x =>
      rw [hx] at h1
      obtain ⟨hi, rfl⟩ := List.getElem?_eq_some_iff.mp hx
      exact ⟨hi, cmpK_self.mp (by simpa using h1)⟩
  · rintro ⟨hc, e⟩
    rw [List.getElem?_eq_getElem hc]
    simp only [beq_iff_eq]
    exact cmpK_self.mpr e
def behK (k : ByteArray) (l : List S35) : Nat := cntN (cmpK k) l + if fndB (cmpK k) l = true then 1 else 0
theorem behK_le {l : List S35} (h : RiseP l) (k : ByteArray) : behK k l ≤ l.length := by
  unfold behK
  by_cases hf : fndB (cmpK k) l = true
  · obtain ⟨hc, _⟩ := (fnd_at h k).mp hf
    rw [if_pos hf]
    omega
  · rw [if_neg hf]
    have := cntN_le (cmpK k) l
    omega
theorem beh_at {l : List S35} (h : RiseP l) (k : ByteArray) : ∀ t (ht : t < l.length), behK k l ≤ t → sblt k l[t].f0 = true := by
  intro t ht hb
  have hp := List.pairwise_iff_getElem.mp h
  unfold behK at hb
  by_cases hf : fndB (cmpK k) l = true
  · obtain ⟨hc, e⟩ := (fnd_at h k).mp hf
    rw [if_pos hf] at hb
    rw [← e]
    exact hp _ t hc ht (by omega)
  · rw [if_neg hf] at hb
    have h1 : sblt l[t].f0 k = false := by
      cases h2 : sblt l[t].f0 k with
      | false => rfl
      | true => have := (cnt_at h k t ht).mpr h2; omega
    cases h3 : sblt k l[t].f0 with
    | true => rfl
    | false =>
      exfalso
      have e := sblt_tri h1 h3
      apply hf
      rw [fnd_at h k]
      have hc : cntN (cmpK k) l = t := by
        rcases Nat.lt_or_ge (cntN (cmpK k) l) t with h4 | h4
        · have h5 := hp _ t (by omega) ht h4
          rw [e] at h5
          have := (cnt_at h k _ (by omega)).mpr h5
          omega
        · omega
      exact ⟨by omega, by simp only [hc]; exact e⟩
def putL (l : List S35) (k : ByteArray) (v : Int) : List S35 := l.take (cntN (cmpK k) l) ++ ⟨k, v⟩ :: l.drop (behK k l)
def remL (l : List S35) (k : ByteArray) : List S35 := l.take (cntN (cmpK k) l) ++ l.drop (behK k l)
theorem remL_rise {l : List S35} (h : RiseP l) (k : ByteArray) : RiseP (remL l k) := by
  unfold remL RiseP
  rw [List.pairwise_append]
  refine ⟨h.sublist (List.take_sublist _ _), h.sublist (List.drop_sublist _ _), fun a ha b hb => ?_⟩
  obtain ⟨i, hi, rfl⟩ := List.mem_take_iff_getElem.mp ha
  obtain ⟨j, hj, rfl⟩ := List.mem_drop_iff_getElem.mp hb
  have h1 := (cnt_at h k i (by omega)).mp (by omega)
  have h2 := beh_at h k (behK k l + j) (by omega) (by omega)
  exact sblt_trans h1 h2
theorem putL_rise {l : List S35} (h : RiseP l) (k : ByteArray) (v : Int) : RiseP (putL l k v) := by
  unfold putL RiseP
  rw [List.pairwise_append, List.pairwise_cons]
  refine ⟨h.sublist (List.take_sublist _ _), ⟨fun b hb => ?_, h.sublist (List.drop_sublist _ _)⟩, fun a ha b hb => ?_⟩
  · obtain ⟨j, hj, rfl⟩ := List.mem_drop_iff_getElem.mp hb
    exact beh_at h k (behK k l + j) (by omega) (by omega)
  · obtain ⟨i, hi, rfl⟩ := List.mem_take_iff_getElem.mp ha
    have h1 := (cnt_at h k i (by omega)).mp (by omega)
    rcases List.mem_cons.mp hb with rfl | hb
    · exact h1
    · obtain ⟨j, hj, rfl⟩ := List.mem_drop_iff_getElem.mp hb
      exact sblt_trans h1 (beh_at h k (behK k l + j) (by omega) (by omega))
theorem putL_len (l : List S35) (k : ByteArray) (v : Int) : (putL l k v).length ≤ l.length + 1 := by
  unfold putL
  have h1 := cntN_le (cmpK k) l
  have h2 : cntN (cmpK k) l ≤ behK k l := by unfold behK; omega
  rw [List.length_append, List.length_take, List.length_cons, List.length_drop]
  omega
theorem remL_len (l : List S35) (k : ByteArray) : (remL l k).length ≤ l.length := by
  unfold remL
  have h1 := cntN_le (cmpK k) l
  have h2 : cntN (cmpK k) l ≤ behK k l := by unfold behK; omega
  rw [List.length_append, List.length_take, List.length_drop]
  omega
end Go.Proofs.Ytkmjmgkpcomldaa.Q
end

section
namespace Go.Proofs.Ytkmjmgkpcomldaa.Q
open Go.RowKit Go.Proofs.YtkmjmgkpcomldaaW.PrintWords Go.Proofs.YtkmjmgkpcomldaaW.PrintLast
set_option linter.unusedVariables false
set_option linter.unusedSimpArgs false
theorem behK_found {l : List S35} {k : ByteArray} (h : fndB (cmpK k) l = true) : behK k l = cntN (cmpK k) l + 1 := by
  unfold behK
  rw [if_pos h]
theorem behK_new {l : List S35} {k : ByteArray} (h : fndB (cmpK k) l = false) : behK k l = cntN (cmpK k) l := by
  unfold behK
  rw [h, if_neg (by simp)]
  omega
def edit1 (l : List S35) (e : S66) : List S35 := if e.f2 = true then remL l e.f0 else putL l e.f0 e.f1
theorem edit1_rise {l : List S35} (h : RiseP l) (e : S66) : RiseP (edit1 l e) := by
  unfold edit1
  split
  · exact remL_rise h _
  · exact putL_rise h _ _
theorem edit1_len (l : List S35) (e : S66) : (edit1 l e).length ≤ l.length + 1 := by
  unfold edit1
  split
  · have := remL_len l e.f0
    omega
  · exact putL_len l _ _
theorem clone_e {l : List S35} (h : l.length ≤ 2000000) : impl_Entry_47.f l = some l := by
  unfold impl_Entry_47.f
  simp only [Option.bind_some, List.length_nil, Nat.zero_add, List.nil_append, (show l.length < 5864062014805 by omega), if_true]
theorem delete_at {l : List S35} {c : Nat} (h : c < l.length) (hl : l.length ≤ 2000000) : impl_Entry_82.f l (c : Int) (wrap64 ((c : Int) + 1)) = some (l.take c ++ l.drop (c + 1)) := by
  have hw : wrap64 ((c : Int) + 1) = (c : Int) + 1 := by unfold wrap64; omega
  unfold impl_Entry_82.f
  rw [hw, if_pos (by omega), if_pos rfl, if_pos (by omega), Int.toNat_natCast]
theorem insert_at {l : List S35} {c : Nat} (x : S35) (h : c ≤ l.length) (hl : l.length ≤ 2000000) : impl_Entry_83.f l (c : Int) [x] = some (l.take c ++ x :: l.drop c) := by
  unfold impl_Entry_83.f
  simp only [Int.natCast_nonneg, if_true, (show ((c : Int) ≤ (l.length : Int)) by omega), (show l.length < 5000000 by omega), Int.toNat_natCast, List.append_assoc, List.cons_append, List.nil_append]
theorem edited_loop (ed : List S66) (hed : ed.length ≤ 1000000) : ∀ (d i : Nat) (l : List S35), i + d = ed.length → RiseP l → l.length + d ≤ 1000000 → Ev (fun k => impl_edited.l0 k l ed (ed.length : Int) (i : Int)) ((ed.drop i).foldl edit1 l) := by
  intro d
  induction d with
  | zero =>
    intro i l hi hr hl
    rw [List.drop_of_length_le (by omega)]
    refine Ev.at_ (c := 1) (fun k => ?_)
    simp only [impl_edited.l0]
    rw [if_neg (by omega)]
    rfl
  | succ d ih =>
    intro i l hi hr hl
    have hil : i < ed.length := by omega
    have c1 : (i : Int) < (ed.length : Int) := by omega
    have e1 : rd_T66 ed (i : Int) = ed[i] := by simp [rd_T66, List.getD_eq_getElem?_getD, List.getElem?_eq_getElem hil]
    have hn := ih (i + 1) (edit1 l ed[i]) (by omega) (edit1_rise hr _) (by have := edit1_len l ed[i]; omega)
    rw [List.drop_eq_getElem_cons hil, List.foldl_cons]
    have hcl := cntN_le (cmpK ed[i].f0) l
    refine Ev.succ ?_
    simp only [impl_edited.l0, c1, Int.natCast_nonneg, if_true, e1, find_f hr (show l.length ≤ 1048576 by omega), Option.bind_some, wrap_i (show i < 4611686018427387904 by omega)]
    cases hf : fndB (cmpK ed[i].f0) l with
    | true =>
      obtain ⟨hc, _⟩ := (fnd_at hr ed[i].f0).mp hf
      have hdl : (l.take (cntN (cmpK ed[i].f0) l) ++ l.drop (cntN (cmpK ed[i].f0) l + 1)).length ≤ 2000000 := by
        rw [List.length_append, List.length_take, List.length_drop]; omega
      have hdc : cntN (cmpK ed[i].f0) l ≤ (l.take (cntN (cmpK ed[i].f0) l) ++ l.drop (cntN (cmpK ed[i].f0) l + 1)).length := by
        rw [List.length_append, List.length_take, List.length_drop]; omega
      have ht : (l.take (cntN (cmpK ed[i].f0) l) ++ l.drop (cntN (cmpK ed[i].f0) l + 1)).take (cntN (cmpK ed[i].f0) l) = l.take (cntN (cmpK ed[i].f0) l) := by
        rw [List.take_append_of_le_length (by rw [List.length_take]; omega), List.take_take, Nat.min_self]
      have hdd : (l.take (cntN (cmpK ed[i].f0) l) ++ l.drop (cntN (cmpK ed[i].f0) l + 1)).drop (cntN (cmpK ed[i].f0) l) = l.drop (cntN (cmpK ed[i].f0) l + 1) := by
        rw [List.drop_append, List.drop_eq_nil_of_le (by rw [List.length_take]; omega), List.length_take, Nat.min_eq_left (by omega), Nat.sub_self, List.drop_zero, List.nil_append]
      simp only [if_true, delete_at hc (show l.length ≤ 2000000 by omega), Option.bind_some, insert_at _ hdc hdl, ht, hdd]
      cases hg : ed[i].f2 with
      | true =>
        have he : edit1 l ed[i] = l.take (cntN (cmpK ed[i].f0) l) ++ l.drop (cntN (cmpK ed[i].f0) l + 1) := by
          unfold edit1 remL
          rw [if_pos hg, behK_found hf]
        simp only [if_true]
        rw [he] at hn
        rw [he]
        exact hn
      | false =>
        have he : edit1 l ed[i] = l.take (cntN (cmpK ed[i].f0) l) ++ ⟨ed[i].f0, ed[i].f1⟩ :: l.drop (cntN (cmpK ed[i].f0) l + 1) := by
          unfold edit1 putL
          rw [if_neg (by simp [hg]), behK_found hf]
        simp only [Bool.false_eq_true, if_false]
        rw [he] at hn
        rw [he]
        exact hn
    | false =>
      simp only [Bool.false_eq_true, if_false, insert_at _ hcl (show l.length ≤ 2000000 by omega), Option.bind_some]
      cases hg : ed[i].f2 with
      | true =>
        have he : edit1 l ed[i] = l := by
          unfold edit1 remL
          rw [if_pos hg, behK_new hf, List.take_append_drop]
        simp only [if_true]
        rw [he] at hn
        rw [he]
        exact hn
      | false =>
        have he : edit1 l ed[i] = l.take (cntN (cmpK ed[i].f0) l) ++ ⟨ed[i].f0, ed[i].f1⟩ :: l.drop (cntN (cmpK ed[i].f0) l) := by
          unfold edit1 putL
          rw [if_neg (by simp [hg]), behK_new hf]
        simp only [Bool.false_eq_true, if_false]
        rw [he] at hn
        rw [he]
        exact hn
theorem edited_ev {l : List S35} (ed : List S66) (hr : RiseP l) (hl : l.length + ed.length ≤ 1000000) : Ev (fun k => impl_edited.f k l ed) (ed.foldl edit1 l) := by
  unfold impl_edited.f
  rw [clone_e (by omega)]
  simp only [Option.bind_some]
  have h := edited_loop ed (by omega) ed.length 0 l (by omega) hr hl
  rw [List.drop_zero] at h
  exact h
theorem take_next {l : List S35} {i : Nat} (h : i < l.length) : l.take (i + 1) = l.take i ++ [l[i]] := by
  rw [List.take_add_one, List.getElem?_eq_getElem h]
  rfl
theorem drop_next {l : List S35} {i b : Nat} (h : i < l.length) (hb : b ≤ i) : (l.take (i + 1)).drop b = (l.take i).drop b ++ [l[i]] := by
  rw [take_next h, List.drop_append_of_le_length (by rw [List.length_take]; omega)]
def putAcc (l : List S35) (k : ByteArray) (v : Int) (i : Nat) : List S35 := if i ≤ cntN (cmpK k) l then l.take i else l.take (cntN (cmpK k) l) ++ ⟨k, v⟩ :: (l.take i).drop (behK k l)
theorem putAcc_len (l : List S35) (k : ByteArray) (v : Int) (i : Nat) (hl : l.length ≤ 1000000) : (putAcc l k v i).length < 5864062014805 - 1 := by
  unfold putAcc
  have h1 := cntN_le (cmpK k) l
  split
  · rw [List.length_take]; omega
  · rw [List.length_append, List.length_take, List.length_cons, List.length_drop, List.length_take]; omega
theorem key_ne {l : List S35} (hr : RiseP l) (k : ByteArray) (i : Nat) (hi : i < l.length) (h : i ≠ cntN (cmpK k) l ∨ fndB (cmpK k) l = false) : ¬ (l[i].f0.toList = k.toList) := by
  intro e
  have e2 := toList_inj e
  obtain ⟨h1, h2⟩ := find_some hr hi e2
  rcases h with h | h
  · exact h h1.symm
  · rw [h2] at h; cases h
theorem l01Put_loop {l : List S35} (hr : RiseP l) (k : ByteArray) (v : Int) (hl : l.length ≤ 1000000) : ∀ (d i : Nat), i + d = l.length → Ev (fun q => spec_l01Put.l0 q l k v (putAcc l k v i) (decide (cntN (cmpK k) l < i)) (i : Int)) (putL l k v) := by
  have hcl := cntN_le (cmpK k) l
  have hbl := behK_le hr k
  have hcb : cntN (cmpK k) l ≤ behK k l := by unfold behK; omega
  have hbc : behK k l ≤ cntN (cmpK k) l + 1 := by unfold behK; split <;> omega
  intro d
  induction d with
  | zero =>
    intro i hi
    obtain rfl : i = l.length := by omega
    refine Ev.at_ (c := 1) (fun q => ?_)
    simp only [spec_l01Put.l0]
    rw [if_neg (by omega)]
    by_cases hc : cntN (cmpK k) l < l.length
    · simp only [hc, decide_true, if_true]
      unfold putAcc putL
      rw [if_neg (by omega), List.take_length]
    · have hce : cntN (cmpK k) l = l.length := by omega
      have hlt := putAcc_len l k v l.length hl
      simp only [hc, decide_false, Bool.false_eq_true, if_false, (show (putAcc l k v l.length).length < 5864062014805 by omega), if_true]
      unfold putAcc putL
      rw [if_pos (by omega), hce, List.drop_of_length_le (by omega)]
  | succ d ih =>
    intro i hi
    have hil : i < l.length := by omega
    have c1 : (i : Int) < (l.length : Int) := by omega
    have e1 : rd_T35 l (i : Int) = l[i] := rdEntry hil
    have hn := ih (i + 1) (by omega)
    have hlt := putAcc_len l k v i hl
    have hlt2 : (putAcc l k v i).length < 5864062014805 := by omega
    have w := wrap_i (show i < 4611686018427387904 by omega)
    rcases Nat.lt_trichotomy i (cntN (cmpK k) l) with hic | hic | hic
    · -- ahead of the key
      have hless : Op.bytesLess l[i].f0.toList k.toList = true := (cnt_at hr k i hil).mp hic
      have hne := key_ne hr k i hil (.inl (by omega))
      have d0 : decide (cntN (cmpK k) l < i) = false := decide_eq_false (by omega)
      have d1 : decide (cntN (cmpK k) l < i + 1) = false := decide_eq_false (by omega)
      have ha : putAcc l k v (i + 1) = putAcc l k v i ++ [l[i]] := by
        unfold putAcc
        rw [if_pos (by omega), if_pos (by omega), take_next hil]
      rw [d1, ha] at hn
      refine Ev.succ (Ev.succ ?_)
      simp only [spec_l01Put.l0, spec_l01Put.j1, c1, if_true, d0, Bool.false_eq_true, if_false, Int.natCast_nonneg, e1, hless, Bool.not_true, hne, hlt2, w]
      exact hn
    · -- at its place
      have hless : Op.bytesLess l[i].f0.toList k.toList = false := by
        cases hb : Op.bytesLess l[i].f0.toList k.toList with
        | false => rfl
        | true =>
          have := (cnt_at hr k i hil).mpr hb
          omega
      have d0 : decide (cntN (cmpK k) l < i) = false := decide_eq_false (by omega)
      have d1 : decide (cntN (cmpK k) l < i + 1) = true := decide_eq_true (by omega)
      have ha0 : putAcc l k v i = l.take i := by unfold putAcc; rw [if_pos (by omega)]
      have hlt3 : (l.take i ++ [(⟨k, v⟩ : S35)]).length < 5864062014805 := by rw [List.length_append, List.length_take, List.length_singleton]; omega
      have hlt4 : (l.take i).length < 5864062014805 := by rw [List.length_take]; omega
      have ha1 : putAcc l k v (i + 1) = l.take i ++ ⟨k, v⟩ :: (l.take (i + 1)).drop (behK k l) := by unfold putAcc; rw [if_neg (by omega), ← hic]
      rw [d1, ha1] at hn
      refine Ev.succ (Ev.succ ?_)
      simp only [spec_l01Put.l0, spec_l01Put.j1, c1, if_true, d0, Bool.false_eq_true, if_false, Int.natCast_nonneg, e1, hless, Bool.not_false, ha0, hlt4, Option.bind_some, w]
      cases hf : fndB (cmpK k) l with
      | true =>
        obtain ⟨hc, hk⟩ := (fnd_at hr k).mp hf
        have hkk : l[i].f0.toList = k.toList := by
          have : l[i].f0 = k := by simpa [hic] using hk
          rw [this]
        simp only [hkk, if_true]
        rw [behK_found hf, ← hic, List.drop_of_length_le (by rw [List.length_take]; omega)] at hn
        exact hn
      | false =>
        have hne := key_ne hr k i hil (.inr hf)
        simp only [hne, if_false, hlt3, if_true]
        rw [behK_new hf, ← hic, drop_next hil (Nat.le_refl i), List.drop_of_length_le (by rw [List.length_take]; omega), List.nil_append] at hn
        rw [List.append_assoc]
        exact hn
    · -- behind it
      have hne := key_ne hr k i hil (.inl (by omega))
      have d0 : decide (cntN (cmpK k) l < i) = true := decide_eq_true hic
      have d1 : decide (cntN (cmpK k) l < i + 1) = true := decide_eq_true (by omega)
      have ha : putAcc l k v (i + 1) = putAcc l k v i ++ [l[i]] := by
        unfold putAcc
        rw [if_neg (by omega), if_neg (by omega), drop_next hil (by omega), List.append_assoc, List.cons_append]
      rw [d1, ha] at hn
      refine Ev.succ (Ev.succ ?_)
      simp only [spec_l01Put.l0, spec_l01Put.j1, c1, if_true, d0, Bool.false_eq_true, if_false, Int.natCast_nonneg, e1, hne, hlt2, w]
      exact hn
theorem l01Put_ev {l : List S35} (hr : RiseP l) (k : ByteArray) (v : Int) (hl : l.length ≤ 1000000) : Ev (fun q => spec_l01Put.f q l k v) (putL l k v) := by
  unfold spec_l01Put.f
  have h := l01Put_loop hr k v hl l.length 0 (by omega)
  have e : putAcc l k v 0 = [] := by unfold putAcc; rw [if_pos (Nat.zero_le _), List.take_zero]
  have d : decide (cntN (cmpK k) l < 0) = false := decide_eq_false (by omega)
  rw [e, d] at h
  exact h
def remAcc (l : List S35) (k : ByteArray) (i : Nat) : List S35 := if i ≤ cntN (cmpK k) l then l.take i else l.take (cntN (cmpK k) l) ++ (l.take i).drop (behK k l)
theorem l01Remove_loop {l : List S35} (hr : RiseP l) (k : ByteArray) (hl : l.length ≤ 1000000) : ∀ (d i : Nat), i + d = l.length → Ev (fun q => spec_l01Remove.l0 q l k (remAcc l k i) (i : Int)) (remL l k) := by
  have hcl := cntN_le (cmpK k) l
  have hbl := behK_le hr k
  have hcb : cntN (cmpK k) l ≤ behK k l := by unfold behK; omega
  have hbc : behK k l ≤ cntN (cmpK k) l + 1 := by unfold behK; split <;> omega
  intro d
  induction d with
  | zero =>
    intro i hi
    obtain rfl : i = l.length := by omega
    refine Ev.at_ (c := 1) (fun q => ?_)
    simp only [spec_l01Remove.l0]
    rw [if_neg (by omega)]
    unfold remAcc remL
    by_cases hc : cntN (cmpK k) l < l.length
    · rw [if_neg (by omega), List.take_length]
    · have hce : cntN (cmpK k) l = l.length := by omega
      rw [if_pos (by omega), hce, List.drop_of_length_le (by omega), List.append_nil]
  | succ d ih =>
    intro i hi
    have hil : i < l.length := by omega
    have c1 : (i : Int) < (l.length : Int) := by omega
    have e1 : rd_T35 l (i : Int) = l[i] := rdEntry hil
    have hn := ih (i + 1) (by omega)
    have hlt2 : (remAcc l k i).length < 5864062014805 := by
      unfold remAcc
      split
      · rw [List.length_take]; omega
      · rw [List.length_append, List.length_take, List.length_drop, List.length_take]; omega
    have w := wrap_i (show i < 4611686018427387904 by omega)
    by_cases hat : i = cntN (cmpK k) l ∧ fndB (cmpK k) l = true
    · obtain ⟨hic, hf⟩ := hat
      obtain ⟨hc, hk⟩ := (fnd_at hr k).mp hf
      have hkk : l[i].f0.toList = k.toList := by
        have : l[i].f0 = k := by simpa [hic] using hk
        rw [this]
      have ha : remAcc l k (i + 1) = remAcc l k i := by
        unfold remAcc
        rw [if_neg (by omega), if_pos (by omega), behK_found hf, ← hic, List.drop_of_length_le (by rw [List.length_take]; omega), List.append_nil]
      rw [ha] at hn
      refine Ev.succ ?_
      simp only [spec_l01Remove.l0, c1, if_true, Int.natCast_nonneg, e1, hkk, w]
      exact hn
    · have hne := key_ne hr k i hil (by
        by_cases h1 : i = cntN (cmpK k) l
        · right
          cases hf : fndB (cmpK k) l with
          | false => rfl
          | true => exact absurd ⟨h1, hf⟩ hat
        · exact .inl h1)
      have ha : remAcc l k (i + 1) = remAcc l k i ++ [l[i]] := by
        unfold remAcc
        rcases Nat.lt_trichotomy i (cntN (cmpK k) l) with hic | hic | hic
        · rw [if_pos (by omega), if_pos (by omega), take_next hil]
        · have hf : fndB (cmpK k) l = false := by
            cases hf : fndB (cmpK k) l with
            | false => rfl
            | true => exact absurd ⟨hic, hf⟩ hat
          rw [if_neg (by omega), if_pos (by omega), behK_new hf, ← hic, drop_next hil (Nat.le_refl i), List.drop_of_length_le (by rw [List.length_take]; omega), List.nil_append]
        · rw [if_neg (by omega), if_neg (by omega), drop_next hil (by omega), List.append_assoc]
      rw [ha] at hn
      refine Ev.succ ?_
      simp only [spec_l01Remove.l0, c1, if_true, Int.natCast_nonneg, e1, hne, if_false, hlt2, w]
      exact hn
theorem l01Remove_ev {l : List S35} (hr : RiseP l) (k : ByteArray) (hl : l.length ≤ 1000000) : Ev (fun q => spec_l01Remove.f q l k) (remL l k) := by
  unfold spec_l01Remove.f
  have h := l01Remove_loop hr k hl l.length 0 (by omega)
  have e : remAcc l k 0 = [] := by unfold remAcc; rw [if_pos (Nat.zero_le _), List.take_zero]
  rw [e] at h
  exact h
end Go.Proofs.Ytkmjmgkpcomldaa.Q
end

section
namespace Go.Proofs.Ytkmjmgkpcomldaa.Q
open Go.RowKit Go.Proofs.YtkmjmgkpcomldaaW.PrintWords Go.Proofs.YtkmjmgkpcomldaaW.PrintLast
set_option linter.unusedVariables false
set_option linter.unusedSimpArgs false
theorem l01Apply_loop (ed : List S66) (hed : ed.length ≤ 900000) : ∀ (d i : Nat) (l : List S35), i + d = ed.length → RiseP l → l.length + d ≤ 1000000 → Ev (fun k => spec_l01Apply.l0 k l ed (i : Int)) ((ed.drop i).foldl edit1 l) := by
  intro d
  induction d with
  | zero =>
    intro i l hi hr hl
    rw [List.drop_of_length_le (by omega)]
    refine Ev.at_ (c := 1) (fun k => ?_)
    simp only [spec_l01Apply.l0]
    rw [if_neg (by omega)]
    rfl
  | succ d ih =>
    intro i l hi hr hl
    have hil : i < ed.length := by omega
    have c1 : (i : Int) < (ed.length : Int) := by omega
    have e1 : rd_T66 ed (i : Int) = ed[i] := by simp [rd_T66, List.getD_eq_getElem?_getD, List.getElem?_eq_getElem hil]
    have hn := ih (i + 1) (edit1 l ed[i]) (by omega) (edit1_rise hr _) (by have := edit1_len l ed[i]; omega)
    rw [List.drop_eq_getElem_cons hil, List.foldl_cons]
    refine Ev.succ ?_
    simp only [spec_l01Apply.l0, c1, Int.natCast_nonneg, if_true, e1, wrap_i (show i < 4611686018427387904 by omega)]
    cases hg : ed[i].f2 with
    | true =>
      have he : edit1 l ed[i] = remL l ed[i].f0 := by unfold edit1; rw [if_pos hg]
      simp only [if_true]
      rw [he] at hn
      rw [he]
      exact Ev.bind (l01Remove_ev hr _ (by omega)) hn
    | false =>
      have he : edit1 l ed[i] = putL l ed[i].f0 ed[i].f1 := by unfold edit1; rw [if_neg (by simp [hg])]
      simp only [Bool.false_eq_true, if_false]
      rw [he] at hn
      rw [he]
      exact Ev.bind (l01Put_ev hr _ _ (by omega)) hn
theorem l01Apply_ev {l : List S35} (ed : List S66) (hr : RiseP l) (hl : l.length + ed.length ≤ 900000) : Ev (fun k => spec_l01Apply.f k l ed) (ed.foldl edit1 l) := by
  unfold spec_l01Apply.f
  simp only [Option.bind_some, List.length_nil, Nat.zero_add, List.nil_append, (show l.length < 5864062014805 by omega), if_true]
  have h := l01Apply_loop ed (by omega) ed.length 0 l (by omega) hr (by omega)
  rw [List.drop_zero] at h
  exact h
end Go.Proofs.Ytkmjmgkpcomldaa.Q
end

section
namespace Go.Proofs.Ytkmjmgkpcomldaa.Q
open Go.RowKit Go.Proofs.YtkmjmgkpcomldaaW.PrintWords Go.Proofs.YtkmjmgkpcomldaaW.PrintLast
set_option linter.unusedVariables false
set_option linter.unusedSimpArgs false
theorem rdEdit {l : List S66} {i : Nat} (h : i < l.length) : rd_T66 l (i : Int) = l[i] := by
  simp [rd_T66, List.getD_eq_getElem?_getD, List.getElem?_eq_getElem h]
theorem last_keep (key : ByteArray) : ∀ (l : List S66) (a : Option S66), (∀ x, x ∈ l → x.f0 ≠ key) → l.foldl (fun a e => if e.f0 = key then some e else a) a = a
  | [], a, _ => rfl
  | x :: l, a, h => by
    rw [List.foldl_cons, if_neg (h x List.mem_cons_self)]
    exact last_keep key l a (fun y hy => h y (List.mem_cons_of_mem _ hy))
theorem last_none {l : List S66} {key : ByteArray} (h : ∀ i (hi : i < l.length), l[i].f0 ≠ key) : lastE l key = none := by
  refine last_keep key l none (fun x hx => ?_)
  obtain ⟨i, hi, rfl⟩ := List.mem_iff_getElem.mp hx
  exact h i hi
theorem last_some {l : List S66} {key : ByteArray} (hr : l.Pairwise (fun a b => sblt a.f0 b.f0 = true)) {i : Nat} (hi : i < l.length) (hk : l[i].f0 = key) : lastE l key = some l[i] := by
  have e : l = l.take i ++ l[i] :: l.drop (i + 1) := by rw [← List.drop_eq_getElem_cons hi, List.take_append_drop]
  have hp := List.pairwise_iff_getElem.mp hr
  have h1 : lastE (l.take i ++ l[i] :: l.drop (i + 1)) key = some l[i] := by
    unfold lastE
    rw [List.foldl_append, List.foldl_cons, if_pos hk]
    refine last_keep key _ _ (fun x hx => ?_)
    obtain ⟨j, hj, rfl⟩ := List.mem_iff_getElem.mp hx
    rw [List.length_drop] at hj
    rw [List.getElem_drop, ← hk]
    exact fun h => sblt_ne (hp i (i + 1 + j) hi (by omega) (by omega)) h.symm
  rwa [← e] at h1
def foundE (l : List S66) (key : ByteArray) : ByteArray × Int × Bool × Bool := ((gotE l key).f0, (gotE l key).f1, (gotE l key).f2, hasE l key)
theorem find_loop (l : List S66) (key : ByteArray) (hr : l.Pairwise (fun a b => sblt a.f0 b.f0 = true)) (hl : l.length ≤ 1000000) : ∀ (d i : Nat), i + d = l.length → (∀ j (hj : j < l.length), j < i → l[j].f0 ≠ key) → Ev (fun k => spec_l02Find.l0 k l key (i : Int)) (foundE l key) := by
  intro d
  induction d with
  | zero =>
    intro i hi hn
    obtain rfl : i = l.length := by omega
    have c : ¬ ((l.length : Int) < (l.length : Int)) := by omega
    have h0 := last_none (fun j hj => hn j hj hj)
    refine Ev.at_ (c := 1) (fun k => ?_)
    simp only [spec_l02Find.l0, if_neg c, foundE, gotE, hasE, h0]
    rfl
  | succ d ih =>
    intro i hi hn
    have hil : i < l.length := by omega
    have c : (i : Int) < (l.length : Int) := by omega
    have i0 : (0 : Int) ≤ (i : Int) := Int.natCast_nonneg _
    by_cases hk : l[i].f0 = key
    · have h0 := last_some hr hil hk
      have hk2 : l[i].f0.toList = key.toList := by rw [hk]
      refine Ev.at_ (c := 1) (fun k => ?_)
      simp only [spec_l02Find.l0, if_pos c, if_pos i0, rdEdit hil, if_pos hk2, foundE, gotE, hasE, h0]
      rfl
    · have hk2 : ¬ l[i].f0.toList = key.toList := fun h => hk (toList_inj h)
      refine Ev.shift (c := 1) (d := 0) (fun k => ?_) (ih (i + 1) (by omega) (fun j hj h2 => ?_))
      · simp only [spec_l02Find.l0, if_pos c, if_pos i0, rdEdit hil, if_neg hk2, wrap_i (show i < 4611686018427387904 by omega), Nat.add_zero]
      · rcases Nat.lt_or_eq_of_le (Nat.le_of_lt_succ h2) with h3 | h3
        · exact hn j hj h3
        · subst h3; exact hk
theorem find_ev (l : List S66) (key : ByteArray) (hr : l.Pairwise (fun a b => sblt a.f0 b.f0 = true)) (hl : l.length ≤ 1000000) : Ev (fun k => spec_l02Find.f k l key) (foundE l key) :=
  find_loop l key hr hl l.length 0 (by omega) (fun j _ h => absurd h (Nat.not_lt_zero _))
theorem merge_loop (a : List S35) (L R : List S66) (ha : RiseP a) (hL : L.Pairwise (fun a b => sblt a.f0 b.f0 = true)) (hn : a.length + L.length + R.length ≤ 800000) : ∀ (d i : Nat), i + d = R.length →
    Ev (fun k => spec_l02Merge.l0 k a L R (mrg L (R.take i)).2 (mrg L (R.take i)).1 (i : Int)) ((mrg L R).1.foldl edit1 a, (mrg L R).2) := by
  intro d
  induction d with
  | zero =>
    intro i hi
    obtain rfl : i = R.length := by omega
    have c : ¬ ((R.length : Int) < (R.length : Int)) := by omega
    have hlen := (mrg_len L R R.length (Nat.le_refl _)).1
    rw [List.take_length] at hlen ⊢
    refine Ev.succ ?_
    simp only [spec_l02Merge.l0, if_neg c]
    exact Ev.bind (l01Apply_ev (mrg L R).1 ha (by omega)) (Ev.now _)
  | succ d ih =>
    intro i hi
    have hil : i < R.length := by omega
    have c : (i : Int) < (R.length : Int) := by omega
    have i0 : (0 : Int) ≤ (i : Int) := Int.natCast_nonneg _
    have hlen := mrg_len L R i (by omega)
    have w := wrap_i (show i < 4611686018427387904 by omega)
    have l1 : (mrg L (R.take i)).2.length < 8796093022208 := by omega
    have l2 : (mrg L (R.take i)).1.length < 4398046511104 := by omega
    have hf := find_ev L R[i].f0 hL (by omega)
    have hi2 := ih (i + 1) (by omega)
    rw [mrg_take L R i hil] at hi2
    unfold mstep at hi2
    refine Ev.succ ?_
    simp only [spec_l02Merge.l0, if_pos c, if_pos i0, rdEdit hil, if_pos l1, if_pos l2, w]
    refine Ev.bind hf ?_
    unfold foundE
    simp only
    cases hh : hasE L R[i].f0 with
    | true =>
      rw [if_pos hh] at hi2
      simp only [if_true]
      have hne : (!(gotE L R[i].f0).f0.toList == R[i].f0.toList || (!(gotE L R[i].f0).f1 == R[i].f1 || !(gotE L R[i].f0).f2 == R[i].f2)) = neE (gotE L R[i].f0) R[i] := rfl
      rw [hne]
      cases hd : neE (gotE L R[i].f0) R[i] with
      | true =>
        rw [if_pos hd] at hi2
        simp only [if_true]
        exact hi2
      | false =>
        rw [if_neg (by rw [hd]; simp)] at hi2
        simp only [Bool.false_eq_true, if_false]
        exact hi2
    | false =>
      rw [if_neg (by rw [hh]; simp)] at hi2
      simp only [Bool.false_eq_true, if_false]
      exact hi2
def told (m : List S35) (c : List ByteArray) : List S35 × List ByteArray × Int := if (c.length : Int) > 0 then ([], c, 11) else if (m.length : Int) > 12 then ([], [], 7) else (m, [], 0)
theorem told_f (m : List S35) (c : List ByteArray) : spec_l02Told.f m c = some (told m c) := by
  unfold spec_l02Told.f told
  split
  · rfl
  · split <;> rfl
def mergeM (b x y : List S35) : List S35 := (mrg (diffM b x) (diffM b y)).1.foldl edit1 x
def mergeC (b x y : List S35) : List ByteArray := (mrg (diffM b x) (diffM b y)).2
def keysS (l : List S35) : Prop := ∀ x, x ∈ l → x.f0.size ≤ 1000000
theorem diff_keys {a b : List S35} (ha : keysS a) (hb : keysS b) : ∀ e, e ∈ diffM a b → e.f0.size ≤ 1000000 := by
  intro e he
  rcases diffM_key a b e he with ⟨x, hx, hk⟩ | ⟨x, hx, hk⟩
  · rw [hk]; exact ha x hx
  · rw [hk]; exact hb x hx
theorem merge_spec {b x y : List S35} (hb : RiseP b) (hx : RiseP x) (hy : RiseP y) (hl : b.length + x.length + y.length ≤ 100000) : Ev (fun k => spec_l02Merge.f k b x y) (mergeM b x y, mergeC b x y) := by
  have e1 := l01Diff_ev b x (by omega) (by omega)
  have e2 := l01Diff_ev b y (by omega) (by omega)
  have d1 := diffM_len b x
  have d2 := diffM_len b y
  have h := merge_loop x (diffM b x) (diffM b y) hx (diffM_rise b x hb hx) (by omega) (diffM b y).length 0 (by omega)
  unfold spec_l02Merge.f
  exact Ev.bind e1 (Ev.bind e2 h)
theorem merge_impl {b x y : List S35} (hb : RiseP b) (hx : RiseP x) (hy : RiseP y) (hl : b.length + x.length + y.length ≤ 100000) (kb : keysS b) (kx : keysS x) (ky : keysS y) : Ev (fun k => impl_merge.f k b x y) (told (mergeM b x y) (mergeC b x y)) := by
  have e1 := diff_ev b x hb hx (by omega) (by omega)
  have e2 := diff_ev b y hb hy (by omega) (by omega)
  have d1 := diffM_len b x
  have d2 := diffM_len b y
  have hlen := mrg_len (diffM b x) (diffM b y) (diffM b y).length (Nat.le_refl _)
  rw [List.take_length] at hlen
  have hs : small (diffM b x) (diffM b y) = true := by
    unfold small
    rw [Bool.and_eq_true]
    refine ⟨List.all_eq_true.mpr (fun e he => decide_eq_true ?_), decide_eq_true (by omega)⟩
    rcases List.mem_append.mp he with he | he
    · exact diff_keys kb kx e he
    · exact diff_keys kb ky e he
  unfold impl_merge.f told
  refine Ev.bind e1 (Ev.bind e2 ?_)
  simp only [if_pos hs]
  by_cases hc : 0 < (mrg (diffM b x) (diffM b y)).2.length
  · have hc2 : ((mergeC b x y).length : Int) > 0 := by unfold mergeC; omega
    rw [if_pos hc2]
    simp only [if_pos hc]
    exact Ev.now _
  · have hc2 : ¬ ((mergeC b x y).length : Int) > 0 := by unfold mergeC; omega
    rw [if_neg hc2]
    simp only [if_neg hc]
    refine Ev.bind (edited_ev (mrg (diffM b x) (diffM b y)).1 hx (by omega)) ?_
    unfold impl_limited.f
    have e3 : (mrg (diffM b x) (diffM b y)).1.foldl edit1 x = mergeM b x y := rfl
    rw [e3]
    by_cases h13 : ((mergeM b x y).length : Int) > 12
    · simp only [if_pos h13, Option.bind_some]
      exact Ev.now _
    · simp only [if_neg h13, Option.bind_some]
      exact Ev.now _
theorem mapB_keys {m : List S35} (h : mapB m = true) : keysS m := by
  intro x hx
  obtain ⟨i, hi, rfl⟩ := List.mem_iff_getElem.mp hx
  unfold mapB at h
  simp only [Bool.and_eq_true, decide_eq_true_eq, allR_iff] at h
  have h2 := h.2 i hi
  unfold entAt entB at h2
  rw [rdEntry hi] at h2
  simp only [Bool.and_eq_true] at h2
  have h3 := h2.1.1
  unfold nameB at h3
  simp only [Bool.and_eq_true, decide_eq_true_eq] at h3
  omega
end Go.Proofs.Ytkmjmgkpcomldaa.Q
end

section
namespace Go.Proofs.Ytkmjmgkpcomldaa.Q
open Go.RowKit Go.Proofs.YtkmjmgkpcomldaaW.PrintWords Go.Proofs.YtkmjmgkpcomldaaW.PrintLast
set_option linter.unusedVariables false
set_option linter.unusedSimpArgs false
def fit3 (a b c : List S35) : Prop := a.length ≤ 4096 ∧ b.length ≤ 4096 ∧ c.length ≤ 4096
theorem areMaps3_small {a b c : List S35} (h : fit3 a b c) : impl_areMaps.f [a, b, c] = some (if (mapB a && (mapB b && mapB c)) = true then 0 else 1) := by
  unfold impl_areMaps.f areAllMap_isList.f areAllMap_MapOK.f
  obtain ⟨h1, h2, h3⟩ := h
  have e : [a, b, c].all (fun x => decide (x.length ≤ 4096)) = true := by
    simp only [List.all_cons, List.all_nil, Bool.and_true, Bool.and_eq_true, decide_eq_true_eq]
    exact ⟨h1, h2, h3⟩
  have e2 : [a, b, c].all (fun x => decide (x.length ≤ 1048576)) = true := by
    simp only [List.all_cons, List.all_nil, Bool.and_true, Bool.and_eq_true, decide_eq_true_eq]
    omega
  have e3 : [a, b, c].all mapB = (mapB a && (mapB b && mapB c)) := by simp only [List.all_cons, List.all_nil, Bool.and_true]
  rw [e, e2, e3]
  simp only [Option.bind_some, if_true]
  split <;> rfl
theorem merge3_spec {a b c : List S35} (h : fit3 a b c) (v) (hv : Ev (fun k => spec_Merge3.j1 k a b c (!(mapB a && (mapB b && mapB c)))) v) : Ev (fun k => spec_Merge3.f k a b c) v := by
  obtain ⟨h1, h2, h3⟩ := h
  have c1 : ¬ (a.length : Int) > 4096 := by omega
  have c2 : ¬ (b.length : Int) > 4096 := by omega
  have c3 : ¬ (c.length : Int) > 4096 := by omega
  refine Ev.succ ?_
  simp only [spec_Merge3.f, if_neg c1, if_neg c2, decide_eq_false c3, spec_Merge3.j0, Bool.false_eq_true, if_false, spec_l01OK.f, Option.bind_some]
  refine Ev.congr (fun k => ?_) hv
  cases mapB a <;> cases mapB b <;> cases mapB c <;> rfl
end Go.Proofs.Ytkmjmgkpcomldaa.Q
end

section
namespace Go.Proofs.Ytkmjmgkpcomldaa.Q
open Go.RowKit Go.Proofs.YtkmjmgkpcomldaaW.PrintWords Go.Proofs.YtkmjmgkpcomldaaW.PrintLast
set_option linter.unusedVariables false
set_option linter.unusedSimpArgs false
theorem diffM_self : ∀ (xs : List S35), diffM xs xs = []
  | [] => by unfold diffM; rfl
  | x :: xs => by
    unfold diffM
    rw [if_neg (by rw [sblt_irrefl]; simp), if_neg (by rw [sblt_irrefl]; simp), if_pos rfl]
    exact diffM_self xs
theorem cnt_mid {P xs : List S35} {k : ByteArray} (h1 : ∀ p, p ∈ P → sblt p.f0 k = true) (h2 : ∀ x, x ∈ xs → sblt x.f0 k = false) : cntN (cmpK k) (P ++ xs) = P.length := by
  refine cntN_is _ _ (by rw [List.length_append]; omega) (fun t ht hlt => ?_) (fun t ht hge => ?_)
  · rw [List.getElem_append_left hlt]
    exact (cmpK_lt k _).mpr (h1 _ (List.getElem_mem hlt))
  · rw [List.getElem_append_right hge]
    have h3 := h2 _ (List.getElem_mem (by rw [List.length_append] at ht; omega : t - P.length < xs.length))
    have h4 : ¬ cmpK k (xs[t - P.length]'(by rw [List.length_append] at ht; omega)) < 0 := by rw [cmpK_lt, h3]; simp
    omega
theorem fnd_new {P xs : List S35} {k : ByteArray} (h1 : ∀ p, p ∈ P → sblt p.f0 k = true) (h2 : ∀ x, x ∈ xs → sblt k x.f0 = true) : fndB (cmpK k) (P ++ xs) = false := by
  refine find_none (fun i hi hk => ?_)
  have hm := List.getElem_mem hi
  rcases List.mem_append.mp hm with hm | hm
  · exact sblt_ne (h1 _ hm) hk
  · exact sblt_ne (h2 _ hm) hk.symm
theorem put_new {P xs : List S35} {k : ByteArray} (v : Int) (h1 : ∀ p, p ∈ P → sblt p.f0 k = true) (h2 : ∀ x, x ∈ xs → sblt k x.f0 = true) : putL (P ++ xs) k v = P ++ ⟨k, v⟩ :: xs := by
  unfold putL behK
  rw [cnt_mid h1 (fun x hx => sblt_asymm (h2 x hx)), fnd_new h1 h2]
  simp
theorem fnd_old {P xs : List S35} {x : S35} (h1 : ∀ p, p ∈ P → sblt p.f0 x.f0 = true) (h2 : ∀ z, z ∈ xs → sblt x.f0 z.f0 = true) : cntN (cmpK x.f0) (P ++ x :: xs) = P.length ∧ fndB (cmpK x.f0) (P ++ x :: xs) = true := by
  have hc : cntN (cmpK x.f0) (P ++ x :: xs) = P.length := cnt_mid h1 (fun z hz => by
    rcases List.mem_cons.mp hz with rfl | hz
    · exact sblt_irrefl _
    · exact sblt_asymm (h2 z hz))
  refine ⟨hc, ?_⟩
  unfold fndB
  rw [hc]
  have e : (P ++ x :: xs)[P.length]? = some x := by simp
  rw [e]
  simp only [beq_iff_eq]
  exact cmpK_self.mpr rfl
theorem put_old {P xs : List S35} {x : S35} (v : Int) (h1 : ∀ p, p ∈ P → sblt p.f0 x.f0 = true) (h2 : ∀ z, z ∈ xs → sblt x.f0 z.f0 = true) : putL (P ++ x :: xs) x.f0 v = P ++ ⟨x.f0, v⟩ :: xs := by
  obtain ⟨hc, hf⟩ := fnd_old h1 h2
  unfold putL behK
  rw [hc, hf, if_pos rfl, List.take_left]
  have e : (P ++ x :: xs).drop (P.length + 1) = xs := by
    rw [List.drop_append, List.drop_eq_nil_of_le (by omega)]
    simp
  rw [e]
theorem rem_old {P xs : List S35} {x : S35} (h1 : ∀ p, p ∈ P → sblt p.f0 x.f0 = true) (h2 : ∀ z, z ∈ xs → sblt x.f0 z.f0 = true) : remL (P ++ x :: xs) x.f0 = P ++ xs := by
  obtain ⟨hc, hf⟩ := fnd_old h1 h2
  unfold remL behK
  rw [hc, hf, if_pos rfl, List.take_left]
  have e : (P ++ x :: xs).drop (P.length + 1) = xs := by
    rw [List.drop_append, List.drop_eq_nil_of_le (by omega)]
    simp
  rw [e]
theorem rise_mid {P : List S35} {x : S35} {xs : List S35} (h : RiseP (P ++ x :: xs)) : (∀ p, p ∈ P → sblt p.f0 x.f0 = true) ∧ (∀ z, z ∈ xs → sblt x.f0 z.f0 = true) := by
  unfold RiseP at h
  rw [List.pairwise_append] at h
  obtain ⟨_, h2, h3⟩ := h
  exact ⟨fun p hp => h3 p hp x List.mem_cons_self, (List.pairwise_cons.mp h2).1⟩
theorem diff_back : ∀ (P xs ys : List S35), RiseP (P ++ xs) → RiseP (P ++ ys) → (diffM xs ys).foldl edit1 (P ++ xs) = P ++ ys
  | P, [], [], _, _ => by unfold diffM; rfl
  | P, [], y :: ys, h1, h2 => by
    obtain ⟨q1, q2⟩ := rise_mid h2
    have hp : edit1 (P ++ []) (putE y) = (P ++ [y]) ++ [] := by
      unfold edit1
      rw [if_neg (by simp [putE])]
      have := put_new (P := P) (xs := []) (k := y.f0) y.f1 q1 (by simp)
      rw [show (putE y).f0 = y.f0 from rfl, show (putE y).f1 = y.f1 from rfl, this]
      simp
    have hr := diff_back (P ++ [y]) [] ys (by
      unfold RiseP at h2 ⊢
      rw [List.append_nil]
      have e : P ++ y :: ys = (P ++ [y]) ++ ys := by simp
      rw [e, List.pairwise_append] at h2
      exact h2.1) (by rw [List.append_assoc]; exact h2)
    have e : diffM [] (y :: ys) = putE y :: diffM [] ys := by unfold diffM; rfl
    rw [e, List.foldl_cons, hp, hr, List.append_assoc]
    rfl
  | P, x :: xs, [], h1, h2 => by
    obtain ⟨q1, q2⟩ := rise_mid h1
    have hp : edit1 (P ++ x :: xs) (delE x) = P ++ xs := by
      unfold edit1
      rw [if_pos (show (delE x).f2 = true from rfl)]
      exact rem_old q1 q2
    have hr := diff_back P xs [] (by
      unfold RiseP at h1 ⊢
      exact h1.sublist (List.Sublist.append_left (List.sublist_cons_self x xs) P)) h2
    have e : diffM (x :: xs) [] = delE x :: diffM xs [] := by rw [diffM_nil, diffM_nil]; rfl
    rw [e, List.foldl_cons, hp, hr]
  | P, x :: xs, y :: ys, h1, h2 => by
    obtain ⟨q1, q2⟩ := rise_mid h1
    obtain ⟨p1, p2⟩ := rise_mid h2
    have hsub : RiseP (P ++ xs) := by
      unfold RiseP at h1 ⊢
      exact h1.sublist (List.Sublist.append_left (List.sublist_cons_self x xs) P)
    unfold diffM
    split
    · have hp : edit1 (P ++ x :: xs) (delE x) = P ++ xs := by
        unfold edit1
        rw [if_pos (show (delE x).f2 = true from rfl)]
        exact rem_old q1 q2
      rw [List.foldl_cons, hp]
      exact diff_back P xs (y :: ys) hsub h2
    · rename_i hnlt
      have e1 : P ++ y :: ys = (P ++ [y]) ++ ys := by simp
      split
      · rename_i hlt
        have hall : ∀ z, z ∈ x :: xs → sblt y.f0 z.f0 = true := by
          intro z hz
          rcases List.mem_cons.mp hz with rfl | hz
          · exact hlt
          · exact sblt_trans hlt (q2 z hz)
        have hp : edit1 (P ++ x :: xs) (putE y) = (P ++ [y]) ++ x :: xs := by
          unfold edit1
          rw [if_neg (by simp [putE])]
          have := put_new (P := P) (xs := x :: xs) (k := y.f0) y.f1 p1 hall
          rw [show (putE y).f0 = y.f0 from rfl, show (putE y).f1 = y.f1 from rfl, this]
          simp
        rw [List.foldl_cons, hp, e1]
        refine diff_back (P ++ [y]) (x :: xs) ys ?_ (by rw [← e1]; exact h2)
        unfold RiseP at h1 h2 ⊢
        rw [List.append_assoc, List.pairwise_append]
        rw [List.pairwise_append] at h1 h2
        refine ⟨h1.1, List.pairwise_cons.mpr ⟨hall, h1.2.1⟩, fun p hP z hz => ?_⟩
        rcases List.mem_cons.mp hz with rfl | hz
        · exact p1 p hP
        · exact h1.2.2 p hP z hz
      · rename_i hnlt2
        have he0 : x.f0 = y.f0 := sblt_tri (Bool.not_eq_true _ ▸ hnlt) (Bool.not_eq_true _ ▸ hnlt2)
        have hr2 : RiseP ((P ++ [y]) ++ xs) := by
          unfold RiseP at h1 ⊢
          rw [List.append_assoc, List.pairwise_append]
          rw [List.pairwise_append] at h1
          refine ⟨h1.1, List.pairwise_cons.mpr ⟨fun z hz => by rw [← he0]; exact q2 z hz, (List.pairwise_cons.mp h1.2.1).2⟩, fun p hP z hz => ?_⟩
          rcases List.mem_cons.mp hz with rfl | hz
          · exact p1 p hP
          · exact h1.2.2 p hP z (List.mem_cons_of_mem _ hz)
        split
        · rename_i hv
          have hxy : x = y := by cases x; cases y; simp only at he0 hv; rw [he0, hv]
          have e2 : P ++ x :: xs = (P ++ [y]) ++ xs := by rw [hxy]; simp
          rw [e2, e1]
          exact diff_back (P ++ [y]) xs ys hr2 (by rw [← e1]; exact h2)
        · have hp : edit1 (P ++ x :: xs) (putE y) = (P ++ [y]) ++ xs := by
            unfold edit1
            rw [if_neg (by simp [putE])]
            have := put_old (P := P) (xs := xs) (x := x) y.f1 q1 q2
            rw [show (putE y).f0 = x.f0 from he0.symm, show (putE y).f1 = y.f1 from rfl, this, he0]
            simp
          rw [List.foldl_cons, hp, e1]
          exact diff_back (P ++ [y]) xs ys hr2 (by rw [← e1]; exact h2)
termination_by P xs ys => xs.length + ys.length
theorem mrg_none (R : List S66) : mrg [] R = (R, []) := by
  have key : ∀ (R O : List S66), R.foldl (mstep []) (O, []) = (O ++ R, []) := by
    intro R
    induction R with
    | nil => intro O; simp
    | cons e R ih =>
      intro O
      rw [List.foldl_cons]
      have e1 : mstep [] (O, []) e = (O ++ [e], []) := rfl
      rw [e1, ih]
      simp
  exact key R []
theorem mrg_same (L : List S66) (hr : L.Pairwise (fun a b => sblt a.f0 b.f0 = true)) : ∀ i, i ≤ L.length → mrg L (L.take i) = ([], []) := by
  intro i
  induction i with
  | zero => intro _; rfl
  | succ i ih =>
    intro hi
    have hil : i < L.length := by omega
    rw [mrg_take L L i hil, ih (by omega)]
    have h0 := last_some hr hil rfl
    unfold mstep hasE gotE
    rw [h0]
    have hn : neE L[i] L[i] = false := by simp [neE]
    simp [hn]
theorem self1 (b a : List S35) : mergeM b a b = a ∧ mergeC b a b = [] := by
  unfold mergeM mergeC
  rw [diffM_self b]
  exact ⟨rfl, rfl⟩
theorem self2 {b a : List S35} (hb : RiseP b) (ha : RiseP a) : mergeM b b a = a ∧ mergeC b b a = [] := by
  unfold mergeM mergeC
  rw [diffM_self b, mrg_none]
  exact ⟨diff_back [] b a hb ha, rfl⟩
theorem self3 {b a : List S35} (hb : RiseP b) (ha : RiseP a) : mergeM b a a = a ∧ mergeC b a a = [] := by
  have h := mrg_same (diffM b a) (diffM_rise b a hb ha) (diffM b a).length (Nat.le_refl _)
  rw [List.take_length] at h
  unfold mergeM mergeC
  rw [h]
  exact ⟨rfl, rfl⟩
theorem told_fine {m : List S35} (h : m.length ≤ 12) : told m [] = (m, [], 0) := by
  unfold told
  rw [if_neg (by simp), if_neg (by omega)]
theorem m3_val {x y z m : List S35} (hx : mapB x = true) (hy : mapB y = true) (hz : mapB z = true) (h : mergeM x y z = m ∧ mergeC x y z = []) (hm : m.length ≤ 12) :
    Ev (fun k => spec_Merge3.f k x y z) (m, [], 0) ∧ Ev (fun k => impl_Merge3.f k x y z) (m, [], 0) := by
  have l1 := mapB_len hx
  have l2 := mapB_len hy
  have l3 := mapB_len hz
  have hf : fit3 x y z := ⟨by omega, by omega, by omega⟩
  have g1 := merge_spec (mapB_rise hx) (mapB_rise hy) (mapB_rise hz) (by omega)
  have g2 := merge_impl (mapB_rise hx) (mapB_rise hy) (mapB_rise hz) (by omega) (mapB_keys hx) (mapB_keys hy) (mapB_keys hz)
  rw [h.1, h.2] at g1 g2
  rw [told_fine hm] at g2
  have hall : (mapB x && (mapB y && mapB z)) = true := by rw [hx, hy, hz]; rfl
  have hA := areMaps3_small hf
  rw [hall] at hA
  constructor
  · refine merge3_spec hf _ (Ev.succ ?_)
    rw [hall]
    simp only [spec_Merge3.j1, Bool.not_true, Bool.false_eq_true, if_false]
    refine Ev.bind g1 ?_
    simp only [told_f, told_fine hm, Option.bind_some]
    exact Ev.now _
  · simp only [impl_Merge3.f, hA, Option.bind_some, if_true]
    exact Ev.bind g2 (Ev.now _)
end Go.Proofs.Ytkmjmgkpcomldaa.Q
end

section
namespace Go.Proofs.Ytkmjmgkpcomldaa.Q
open Go.RowKit Go.Proofs.YtkmjmgkpcomldaaW.PrintWords Go.Proofs.YtkmjmgkpcomldaaW.PrintLast
set_option linter.unusedVariables false
set_option linter.unusedSimpArgs false
theorem wid {x : Int} (h0 : -9223372036854775808 ≤ x) (h1 : x ≤ 9223372036854775807) : wrap64 x = x := by unfold wrap64; omega
theorem tmod_in {x n : Int} (h0 : 0 ≤ x) (hn : 0 < n) : 0 ≤ Int.tmod x n ∧ Int.tmod x n < n := by
  rw [Int.tmod_eq_emod_of_nonneg h0]
  exact ⟨Int.emod_nonneg _ (by omega), Int.emod_lt_of_pos _ hn⟩
def bytesOK (l : List Int) : Prop := ∀ x, x ∈ l → 0 ≤ x ∧ x ≤ 255
theorem rd_in {l : List Int} (hl : bytesOK l) {a : Int} (h0 : 0 ≤ a) (h1 : a < (l.length : Int)) : 0 ≤ rd l a ∧ rd l a ≤ 255 := by
  have h2 : a.toNat < l.length := by omega
  have e : rd l a = l[a.toNat] := by
    unfold rd
    rw [List.getD_eq_getElem?_getD, List.getElem?_eq_getElem h2]
    rfl
  rw [e]
  exact hl _ (List.getElem_mem h2)
def seedOK (a s : Int) : Prop := 0 ≤ a ∧ a ≤ 1000000000 ∧ 0 ≤ s ∧ s < 2147483648
theorem byte_ev {l : List Int} (hl : bytesOK l) {a s : Int} (h : seedOK a s) : ∃ b s', spec_l00Src_byte.f l a s = some (b, a + 1, s') ∧ 0 ≤ b ∧ b ≤ 255 ∧ 0 ≤ s' ∧ s' < 2147483648 := by
  obtain ⟨h0, h1, h2, h3⟩ := h
  have w1 : wrap64 (a + 1) = a + 1 := wid (by omega) (by omega)
  have w2 : wrap64 (a + 1 - 1) = a := (wid (by omega) (by omega)).trans (by omega)
  unfold spec_l00Src_byte.f
  rw [w1, w2]
  by_cases c1 : a + 1 ≤ (l.length : Int)
  · have c2 : a < (l.length : Int) := by omega
    obtain ⟨g0, g1⟩ := rd_in hl h0 c2
    generalize rd l a = b at g0 g1
    have w3 : wrap64 b = b := wid (by omega) (by omega)
    have w4 : wrap64 (s * 31) = s * 31 := wid (by omega) (by omega)
    have w5 : wrap64 (s * 31 + b) = s * 31 + b := wid (by omega) (by omega)
    have w6 : wrap64 (s * 31 + b + 7) = s * 31 + b + 7 := wid (by omega) (by omega)
    rw [if_pos c1, if_pos h0, if_pos c2, w3, w4, w5, w6]
    obtain ⟨t0, t1⟩ := tmod_in (x := s * 31 + b + 7) (n := 2147483648) (by omega) (by decide)
    exact ⟨_, _, rfl, g0, g1, t0, t1⟩
  · rw [if_neg c1]
    have w4 : wrap64 (s * 1103515245) = s * 1103515245 := wid (by omega) (by omega)
    have w5 : wrap64 (s * 1103515245 + 12345) = s * 1103515245 + 12345 := wid (by omega) (by omega)
    by_cases c2 : a + 1 > 3000
    · rw [if_pos c2]
      exact ⟨_, _, rfl, by omega, by omega, h2, h3⟩
    · rw [if_neg c2, w4, w5]
      obtain ⟨t0, t1⟩ := tmod_in (x := s * 1103515245 + 12345) (n := 2147483648) (by omega) (by decide)
      generalize Int.tmod (s * 1103515245 + 12345) 2147483648 = q at t0 t1
      have d0 : Int.tdiv q 65536 = q / 65536 := Int.tdiv_eq_ediv_of_nonneg t0
      have w6 : wrap64 (q / 65536) = q / 65536 := wid (by omega) (by omega)
      rw [d0, w6]
      obtain ⟨u0, u1⟩ := tmod_in (x := q / 65536) (n := 256) (by omega) (by decide)
      exact ⟨_, _, rfl, u0, by omega, t0, t1⟩
theorem next_ev {l : List Int} (hl : bytesOK l) {a s : Int} (h : seedOK a s) (n : Int) (h1 : 1 ≤ n) (h2 : n ≤ 256) : ∃ v a' s', spec_l00Src_next.f l a s n = some (v, a', s') ∧ 0 ≤ v ∧ v < n ∧ a ≤ a' ∧ a' ≤ a + 1 ∧ 0 ≤ s' ∧ s' < 2147483648 := by
  unfold spec_l00Src_next.f
  by_cases c1 : n ≤ 1
  · rw [if_pos c1]
    exact ⟨0, a, s, rfl, by omega, by omega, by omega, by omega, h.2.2.1, h.2.2.2⟩
  · rw [if_neg c1, if_pos h2]
    obtain ⟨b, s', e, g0, g1, g2, g3⟩ := byte_ev hl h
    rw [e]
    simp only [Option.bind_some]
    rw [if_neg (by omega)]
    obtain ⟨t0, t1⟩ := tmod_in (x := b) (n := n) g0 (by omega)
    exact ⟨_, _, _, rfl, t0, t1, by omega, by omega, g2, g3⟩
theorem pick_ev {l : List Int} (hl : bytesOK l) {a s : Int} (h : seedOK a s) (ts : List ByteArray) (h1 : 1 ≤ ts.length) (h2 : ts.length ≤ 256) : ∃ t a' s', spec_l00Src_pick.f l a s ts = some (t, a', s') ∧ t ∈ ts ∧ a ≤ a' ∧ a' ≤ a + 1 ∧ 0 ≤ s' ∧ s' < 2147483648 := by
  unfold spec_l00Src_pick.f
  rw [if_neg (by omega)]
  obtain ⟨v, a', s', e, g0, g1, g2, g3, g4, g5⟩ := next_ev hl h (ts.length : Int) (by omega) (by omega)
  rw [e]
  simp only [Option.bind_some]
  rw [if_pos g0, if_pos g1]
  have hv : v.toNat < ts.length := by omega
  have er : rdOf ByteArray.empty ts v = ts[v.toNat] := by
    unfold rdOf
    rw [List.getD_eq_getElem?_getD, List.getElem?_eq_getElem hv]
    rfl
  refine ⟨_, _, _, rfl, ?_, g2, g3, g4, g5⟩
  rw [er]
  exact List.getElem_mem hv
theorem key_ev {l : List Int} (hl : bytesOK l) {a s : Int} (h : seedOK a s) : ∃ t a' s', spec_l00Src_key.f l a s = some (t, a', s') ∧ nameB t = true ∧ a ≤ a' ∧ a' ≤ a + 1 ∧ 0 ≤ s' ∧ s' < 2147483648 := by
  unfold spec_l00Src_key.f
  obtain ⟨t, a', s', e, ht, g⟩ := pick_ev hl h [(⟨#[97]⟩ : ByteArray), (⟨#[98]⟩ : ByteArray), (⟨#[99]⟩ : ByteArray), (⟨#[100]⟩ : ByteArray), (⟨#[101]⟩ : ByteArray), (⟨#[107, 49]⟩ : ByteArray), (⟨#[107, 50]⟩ : ByteArray), (⟨#[122, 122]⟩ : ByteArray)] (by decide) (by decide)
  rw [e]
  refine ⟨t, a', s', rfl, ?_, g⟩
  simp only [List.mem_cons, List.mem_nil_iff, or_false] at ht
  rcases ht with rfl | rfl | rfl | rfl | rfl | rfl | rfl | rfl <;> kernel_rfl
def goodM (n : Nat) (m : List S35) : Prop := RiseP m ∧ m.length ≤ n ∧ ∀ x, x ∈ m → nameB x.f0 = true ∧ 0 ≤ x.f1 ∧ x.f1 ≤ 1000
theorem goodM_put {n : Nat} {m : List S35} (h : goodM n m) {k : ByteArray} {v : Int} (hk : nameB k = true) (h0 : 0 ≤ v) (h1 : v ≤ 1000) : goodM (n + 1) (putL m k v) := by
  obtain ⟨hr, hl, hx⟩ := h
  refine ⟨putL_rise hr k v, by have := putL_len m k v; omega, fun x hx2 => ?_⟩
  unfold putL at hx2
  rcases List.mem_append.mp hx2 with hx2 | hx2
  · exact hx x (List.mem_of_mem_take hx2)
  · rcases List.mem_cons.mp hx2 with rfl | hx2
    · exact ⟨hk, h0, h1⟩
    · exact hx x (List.mem_of_mem_drop hx2)
theorem goodM_map {m : List S35} {n : Nat} (h : goodM n m) (hn : n ≤ 12) : mapB m = true := by
  obtain ⟨hr, hl, hx⟩ := h
  unfold mapB
  rw [Bool.and_eq_true]
  refine ⟨decide_eq_true (by omega), allR_iff.mpr (fun j hj => ?_)⟩
  unfold entAt entB
  obtain ⟨h1, h2, h3⟩ := hx m[j] (List.getElem_mem hj)
  rw [rdEntry hj, h1]
  have hv : inB m[j].f1 (-1000000) 1000000 = true := by
    unfold inB
    rw [decide_eq_true (by omega), decide_eq_true (by omega)]
    rfl
  rw [hv]
  cases j with
  | zero => rfl
  | succ j =>
    have e : (((j + 1 : Nat) : Int) - 1) = (j : Int) := by omega
    rw [e, rdEntry (i := j) (by omega), List.pairwise_iff_getElem.mp hr j (j + 1) (by omega) hj (by omega)]
    simp
theorem entries_loop {l : List Int} (hl : bytesOK l) : ∀ (d n : Nat) (m : List S35) (a s : Int), n + d ≤ 12 → goodM n m → 0 ≤ a → a + 10 * d ≤ 1000000000 → 0 ≤ s → s < 2147483648 → ∃ r a' s', Ev (fun k => spec_l00Src_entries.l0 k m (d : Int) l a s) (r, a', s') ∧ goodM (n + d) r := by
  intro d
  induction d with
  | zero =>
    intro n m a s hn hm _ _ _ _
    have c : ¬ (((0 : Nat) : Int) > 0) := by decide
    exact ⟨m, a, s, Ev.at_ (c := 1) (fun k => by simp only [spec_l00Src_entries.l0, if_neg c]), hm⟩
  | succ d ih =>
    intro n m a s hn hm h0 h1 h2 h3
    have c : ((d + 1 : Nat) : Int) > 0 := by omega
    obtain ⟨t, a1, s1, e1, hk, b1, b2, b3, b4⟩ := key_ev hl (a := a) (s := s) ⟨h0, by omega, h2, h3⟩
    obtain ⟨v, a2, s2, e2, v1, v2, d1, d2, d3, d4⟩ := next_ev hl (a := a1) (s := s1) ⟨by omega, by omega, b3, b4⟩ 9 (by decide) (by decide)
    have hp := l01Put_ev hm.1 t v (by have := hm.2.1; omega)
    obtain ⟨r, a', s', e3, hr⟩ := ih (n + 1) (putL m t v) a2 s2 (by omega) (goodM_put hm hk v1 (by omega)) (by omega) (by omega) d3 d4
    have ew : wrap64 (((d + 1 : Nat) : Int) - 1) = (d : Int) := (wid (by omega) (by omega)).trans (by omega)
    refine ⟨r, a', s', Ev.succ ?_, by rw [show n + (d + 1) = n + 1 + d by omega]; exact hr⟩
    simp only [spec_l00Src_entries.l0, if_pos c, e1, e2, Option.bind_some, ew]
    exact Ev.bind hp e3
theorem drawn_ev (l : List Int) (hl : bytesOK l) (hlen : l.length ≤ 1048576) : ∃ m, Ev (fun k => spec_EntriesDrawn.f k l) m ∧ goodM 5 m := by
  have hs : seedOK 0 ((l.length : Int) % 1000) := ⟨by omega, by omega, by omega, by omega⟩
  obtain ⟨v, a1, s1, e1, v1, v2, d1, d2, d3, d4⟩ := next_ev hl hs 6 (by decide) (by decide)
  obtain ⟨n, rfl⟩ := Int.eq_ofNat_of_zero_le v1
  have h0 : goodM 0 ([] : List S35) := ⟨List.Pairwise.nil, by simp, by simp⟩
  obtain ⟨r, a', s', e2, hr⟩ := entries_loop hl n 0 [] a1 s1 (by omega) h0 (by omega) (by omega) d3 d4
  refine ⟨r, ?_, hr.1, by have := hr.2.1; omega, hr.2.2⟩
  unfold spec_EntriesDrawn.f spec_l00Source.f
  simp only [Option.bind_some]
  refine Ev.bind (a := (r, a', s')) ?_ (Ev.now _)
  unfold spec_l00Src_entries.f
  simp only [e1, Option.bind_some]
  exact e2
theorem bytes_wf {l : List Int} (h : ∀ x ∈ l, (Lit.int .u8 x).wf = true) : bytesOK l := by
  intro x hx
  have h1 := h x hx
  simp only [Lit.wf, Bool.and_eq_true, decide_eq_true_eq] at h1
  rw [show IntKind.min .u8 = 0 from by decide, show IntKind.max .u8 = 255 from by decide] at h1
  exact h1
end Go.Proofs.Ytkmjmgkpcomldaa.Q
end

section
namespace Go.Proofs.Ytkmjmgkpcomldaa.Q
open Go.RowKit Go.Proofs.YtkmjmgkpcomldaaW.PrintWords Go.Proofs.YtkmjmgkpcomldaaW.PrintLast
set_option linter.unusedVariables false
set_option linter.unusedSimpArgs false
theorem neEntry (x y : S35) : ((!(x.f0.toList == y.f0.toList) || !(x.f1 == y.f1)) = true) ↔ x ≠ y := by
  constructor
  · rintro h rfl
    simp at h
  · intro h
    cases h1 : (!(x.f0.toList == y.f0.toList) || !(x.f1 == y.f1)) with
    | true => rfl
    | false =>
      simp only [Bool.or_eq_false_iff, Bool.not_eq_false', beq_iff_eq] at h1
      exfalso
      apply h
      cases x; cases y
      simp only at h1
      obtain ⟨h2, h3⟩ := h1
      rw [toList_inj h2, h3]
theorem equalMap_ev (a b : List S35) (ha : a.length ≤ 1048576) : ∃ r, Ev (fun k => impl_Entry_50.f k a b) r ∧ (r = true ↔ a = b) := by
  by_cases hl : a.length = b.length
  · have c : (a.length : Int) = (b.length : Int) := by omega
    obtain ⟨r, hr, h⟩ := ev_same_loop (L := fun k i => impl_Entry_50.l0 k a b (a.length : Int) i) hl (fun i h1 h2 e k => by
      have c1 : (i : Int) < (a.length : Int) := by omega
      have c2 : (i : Int) < (b.length : Int) := by omega
      have e2 : ¬ ((!(a[i].f0.toList == b[i].f0.toList) || !(a[i].f1 == b[i].f1)) = true) := fun h => (neEntry _ _).mp h e
      simp only [impl_Entry_50.l0, rdEntry h1, rdEntry h2, c1, c2, Int.natCast_nonneg, if_true, e2, Bool.false_eq_true, if_false, wrap_i (show i < 4611686018427387904 by omega)]) (fun i h1 h2 e k => by
      have c1 : (i : Int) < (a.length : Int) := by omega
      have c2 : (i : Int) < (b.length : Int) := by omega
      have e2 := (neEntry _ _).mpr e
      simp only [impl_Entry_50.l0, rdEntry h1, rdEntry h2, c1, c2, Int.natCast_nonneg, if_true, e2]) (fun k => by
      simp only [impl_Entry_50.l0]
      rw [if_neg (by omega)])
    exact ⟨r, Ev.congr (f := fun k => impl_Entry_50.l0 k a b (a.length : Int) 0) (fun k => by unfold impl_Entry_50.f; rw [if_pos c]) hr, h⟩
  · refine ⟨false, Ev.congr (f := fun _ => some false) (fun k => by unfold impl_Entry_50.f; rw [if_neg (by omega)]) (Ev.now _), by simp, fun e => absurd (by rw [e]) hl⟩
end Go.Proofs.Ytkmjmgkpcomldaa.Q
end

section
namespace Go.Proofs.Ytkmjmgkpcomldaa.Pure
open Go.RowKit Go.Proofs.Ytkmjmgkpcomldaa.Q Go.Proofs.YtkmjmgkpcomldaaW.PrintWords Go.Proofs.YtkmjmgkpcomldaaW.PrintLast Go.Proofs.YtkmjmgkpcomldaaW.PrintMore
set_option linter.unusedVariables false
set_option linter.unusedSimpArgs false
theorem same_self {m : List S35} (hm : mapB m = true) : Ev (fun k => impl_SameMap.f k m m) true := by
  have hl := mapB_len hm
  obtain ⟨r, h1, h2⟩ := equalMap_ev m m (by omega)
  obtain rfl : r = true := h2.mpr rfl
  unfold impl_SameMap.f
  refine Ev.bind (mapOK_ev m (by omega)) ?_
  rw [hm]
  simp only [if_true]
  exact Ev.bind h1 (Ev.now _)
theorem FnSelfMerge : laws_FnSelfMerge.Pure := by
  intro l0 l1 _ _ w0 _ _ w1
  refine Ev.rounds ?_
  unfold laws_FnSelfMerge.f
  by_cases c0 : (l0.length : Int) > 1048576
  · simp only [c0, if_true]
    exact Ev.at_ (c := 1) (fun k => by simp only [laws_FnSelfMerge.j0, if_true])
  simp only [c0, if_false]
  by_cases c1 : (l1.length : Int) > 1048576
  · simp only [c1, decide_true]
    exact Ev.at_ (c := 1) (fun k => by simp only [laws_FnSelfMerge.j0, if_true])
  simp only [c1, decide_false]
  obtain ⟨b, eb, gb⟩ := drawn_ev l0 (bytes_wf w0) (by omega)
  obtain ⟨a, ea, ga⟩ := drawn_ev l1 (bytes_wf w1) (by omega)
  have mb := goodM_map gb (by omega)
  have ma := goodM_map ga (by omega)
  have lb := mapB_len mb
  have la := mapB_len ma
  have rb := mapB_rise mb
  have ra := mapB_rise ma
  obtain ⟨s1, i1⟩ := m3_val mb ma mb (self1 b a) la
  obtain ⟨_, i2⟩ := m3_val mb mb ma (self2 rb ra) la
  obtain ⟨_, i3⟩ := m3_val mb ma ma (self3 rb ra) la
  have hd := diff_ev a a ra ra (by omega) (by omega)
  rw [diffM_self] at hd
  have hr : Ev (fun k => impl_Rebase.f k b b a) ([], [], 0) := by
    unfold impl_Rebase.f
    refine Ev.bind i2 ?_
    simp only [if_true]
    exact Ev.bind hd (Ev.now _)
  have hS := same_self ma
  refine Ev.succ ?_
  simp only [laws_FnSelfMerge.j0, Bool.false_eq_true, if_false]
  refine Ev.bind eb (Ev.bind ea (Ev.bind i1 (Ev.bind i2 (Ev.bind i3 (Ev.bind s1 (Ev.bind hr ?_))))))
  simp only [if_true, List.length_nil, Int.natCast_zero, Int.ofNat_zero]
  simp
  refine Ev.bind hS ?_
  simp only [if_true]
  refine Ev.bind hS ?_
  simp only [if_true]
  refine Ev.bind hS ?_
  simp only [if_true]
  refine Ev.bind hS ?_
  simp only [if_true]
  exact Ev.now _
end Go.Proofs.Ytkmjmgkpcomldaa.Pure
end
