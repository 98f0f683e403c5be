/- Parts of the proof of the law FnExactMergeCommits, joined into one text. -/
import Derived.Test.YtblejbgkcgajgaaGreatMFnExactMergeCommits5
section
namespace Go.Proofs.YtblejbgkcgajgaaGreat.Q
open Go.RowKit Go.Proofs.YtblejbgkcgajgaaGreatW.PrintWords Go.Proofs.YtblejbgkcgajgaaGreatW.PrintLast
set_option linter.unusedVariables false
set_option linter.unusedSimpArgs false
def putE (y : S84) : S68 := ⟨y.f0, y.f1, false⟩
def delE (x : S84) : S68 := ⟨x.f0, 0, true⟩
def diffM : List S84 → List S84 → List S68
  | [], ys => ys.map putE
  | x :: xs, [] => delE x :: xs.map delE
  | x :: xs, y :: ys =>
    if sblt x.f0 y.f0 = true then delE x :: diffM xs (y :: ys)
    else if sblt y.f0 x.f0 = true then putE y :: diffM (x :: xs) ys
    else if x.f1 = y.f1 then diffM xs ys else putE y :: diffM xs ys
termination_by xs ys => xs.length + ys.length
theorem diffM_nil (xs : List S84) : diffM xs [] = xs.map delE := by
  cases xs with
  | nil => simp [diffM]
  | cons x xs => simp [diffM]
theorem riseP_cons {x : S84} {xs : List S84} (h : RiseP (x :: xs)) : (∀ y, y ∈ xs → sblt x.f0 y.f0 = true) ∧ RiseP xs := by
  unfold RiseP at h ⊢
  exact List.pairwise_cons.mp h
theorem diffM_key : ∀ (xs ys : List S84) (e : S68), e ∈ diffM xs ys → (∃ x, x ∈ xs ∧ e.f0 = x.f0) ∨ (∃ y, y ∈ ys ∧ e.f0 = y.f0)
  | [], ys, e, h => by
    unfold diffM at h
    obtain ⟨y, hy, rfl⟩ := List.mem_map.mp h
    exact .inr ⟨y, hy, rfl⟩
  | x :: xs, [], e, h => by
    rw [diffM_nil] at h
    obtain ⟨z, hz, rfl⟩ := List.mem_map.mp h
    exact .inl ⟨z, hz, rfl⟩
  | x :: xs, y :: ys, e, h => by
    unfold diffM at h
    split at h
    · rcases List.mem_cons.mp h with rfl | h
      · exact .inl ⟨x, List.mem_cons_self, rfl⟩
      · rcases diffM_key xs (y :: ys) e h with ⟨z, hz, hk⟩ | hk
        · exact .inl ⟨z, List.mem_cons_of_mem _ hz, hk⟩
        · exact .inr hk
    · split at h
      · rcases List.mem_cons.mp h with rfl | h
        · exact .inr ⟨y, List.mem_cons_self, rfl⟩
        · rcases diffM_key (x :: xs) ys e h with hk | ⟨z, hz, hk⟩
          · exact .inl hk
          · exact .inr ⟨z, List.mem_cons_of_mem _ hz, hk⟩
      · have hrec : ∀ e, e ∈ diffM xs ys → (∃ z, z ∈ x :: xs ∧ e.f0 = z.f0) ∨ (∃ z, z ∈ y :: ys ∧ e.f0 = z.f0) := by
          intro e h
          rcases diffM_key xs ys e h with ⟨z, hz, hk⟩ | ⟨z, hz, hk⟩
          · exact .inl ⟨z, List.mem_cons_of_mem _ hz, hk⟩
          · exact .inr ⟨z, List.mem_cons_of_mem _ hz, hk⟩
        split at h
        · exact hrec e h
        · rcases List.mem_cons.mp h with rfl | h
          · exact .inr ⟨y, List.mem_cons_self, rfl⟩
          · exact hrec e h
termination_by xs ys => xs.length + ys.length
theorem diffM_rise : ∀ (xs ys : List S84), RiseP xs → RiseP ys → (diffM xs ys).Pairwise (fun a b => sblt a.f0 b.f0 = true)
  | [], ys, _, h => by
    unfold diffM
    rw [List.pairwise_map]
    exact h
  | x :: xs, [], h, _ => by
    rw [diffM_nil, List.pairwise_map]
    exact h
  | x :: xs, y :: ys, h1, h2 => by
    obtain ⟨hx, hx2⟩ := riseP_cons h1
    obtain ⟨hy, hy2⟩ := riseP_cons h2
    unfold diffM
    split
    · rename_i hlt
      refine List.pairwise_cons.mpr ⟨fun e he => ?_, diffM_rise xs (y :: ys) hx2 h2⟩
      rcases diffM_key xs (y :: ys) e he with ⟨z, hz, hk⟩ | ⟨z, hz, hk⟩
      · rw [hk]; exact hx z hz
      · rw [hk]
        rcases List.mem_cons.mp hz with rfl | hz
        · exact hlt
        · exact sblt_trans hlt (hy z hz)
    · rename_i hnlt
      split
      · rename_i hlt
        refine List.pairwise_cons.mpr ⟨fun e he => ?_, diffM_rise (x :: xs) ys h1 hy2⟩
        rcases diffM_key (x :: xs) ys e he with ⟨z, hz, hk⟩ | ⟨z, hz, hk⟩
        · rw [hk]
          rcases List.mem_cons.mp hz with rfl | hz
          · exact hlt
          · exact sblt_trans hlt (hx z hz)
        · rw [hk]; exact hy z hz
      · rename_i hnlt2
        have he0 : x.f0 = y.f0 := sblt_tri (Bool.not_eq_true _ ▸ hnlt) (Bool.not_eq_true _ ▸ hnlt2)
        split
        · exact diffM_rise xs ys hx2 hy2
        · refine List.pairwise_cons.mpr ⟨fun e he => ?_, diffM_rise xs ys hx2 hy2⟩
          rcases diffM_key xs ys e he with ⟨z, hz, hk⟩ | ⟨z, hz, hk⟩
          · rw [hk]
            show sblt y.f0 z.f0 = true
            rw [← he0]; exact hx z hz
          · rw [hk]; exact hy z hz
termination_by xs ys => xs.length + ys.length
def newE (xs : List S84) (y : S84) : List S68 := if xs.any (fun x => decide (x.f0 = y.f0) && decide (x.f1 = y.f1)) then [] else [putE y]
def oldE (ys : List S84) (x : S84) : List S68 := if ys.any (fun y => decide (y.f0 = x.f0)) then [] else [delE x]
theorem newE_skip {x : S84} {xs : List S84} {y : S84} (h : x.f0 ≠ y.f0) : newE (x :: xs) y = newE xs y := by
  unfold newE
  rw [List.any_cons, decide_eq_false h, Bool.false_and, Bool.false_or]
theorem oldE_skip {y : S84} {ys : List S84} {x : S84} (h : y.f0 ≠ x.f0) : oldE (y :: ys) x = oldE ys x := by
  unfold oldE
  rw [List.any_cons, decide_eq_false h, Bool.false_or]
theorem flatMap_congr_ {α β : Type} {f g : α → List β} : ∀ {l : List α}, (∀ x, x ∈ l → f x = g x) → l.flatMap f = l.flatMap g
  | [], _ => rfl
  | x :: xs, h => by rw [List.flatMap_cons, List.flatMap_cons, h x List.mem_cons_self, flatMap_congr_ (fun y hy => h y (List.mem_cons_of_mem _ hy))]
theorem flatMap_one {α β : Type} {g : α → β} : ∀ (l : List α), l.flatMap (fun x => [g x]) = l.map g
  | [] => rfl
  | x :: xs => by rw [List.flatMap_cons, flatMap_one xs]; rfl
theorem diffM_perm : ∀ (xs ys : List S84), RiseP xs → RiseP ys → (ys.flatMap (newE xs) ++ xs.flatMap (oldE ys)).Perm (diffM xs ys)
  | [], ys, _, _ => by
    have e : ys.flatMap (newE []) = ys.map putE := by
      rw [← flatMap_one]
      exact flatMap_congr_ (fun y _ => by simp [newE])
    rw [List.flatMap_nil, List.append_nil, e]
    unfold diffM
    exact List.Perm.refl _
  | x :: xs, [], _, _ => by
    rw [diffM_nil, List.flatMap_nil, List.nil_append, ← flatMap_one]
    rw [flatMap_congr_ (g := fun x => [delE x]) (fun y _ => by simp [oldE])]
  | x :: xs, y :: ys, h1, h2 => by
    obtain ⟨hx, hx2⟩ := riseP_cons h1
    obtain ⟨hy, hy2⟩ := riseP_cons h2
    unfold diffM
    split
    · rename_i hlt
      have hall : ∀ z, z ∈ y :: ys → x.f0 ≠ z.f0 := by
        intro z hz
        rcases List.mem_cons.mp hz with rfl | hz
        · exact sblt_ne hlt
        · exact sblt_ne (sblt_trans hlt (hy z hz))
      have e1 : (y :: ys).flatMap (newE (x :: xs)) = (y :: ys).flatMap (newE xs) := flatMap_congr_ (fun z hz => newE_skip (hall z hz))
      have e2 : oldE (y :: ys) x = [delE x] := by
        unfold oldE
        rw [if_neg]
        intro h
        obtain ⟨z, hz, hk⟩ := List.any_eq_true.mp h
        exact hall z hz (of_decide_eq_true hk).symm
      rw [e1, List.flatMap_cons (f := oldE (y :: ys)), e2]
      exact (List.perm_middle).trans ((diffM_perm xs (y :: ys) hx2 h2).cons _)
    · rename_i hnlt
      split
      · rename_i hlt
        have hall : ∀ z, z ∈ x :: xs → y.f0 ≠ z.f0 := by
          intro z hz
          rcases List.mem_cons.mp hz with rfl | hz
          · exact sblt_ne hlt
          · exact sblt_ne (sblt_trans hlt (hx z hz))
        have e1 : (x :: xs).flatMap (oldE (y :: ys)) = (x :: xs).flatMap (oldE ys) := flatMap_congr_ (fun z hz => oldE_skip (hall z hz))
        have e2 : newE (x :: xs) y = [putE y] := by
          unfold newE
          rw [if_neg]
          intro h
          obtain ⟨z, hz, hk⟩ := List.any_eq_true.mp h
          rw [Bool.and_eq_true, decide_eq_true_eq] at hk
          exact hall z hz hk.1.symm
        rw [e1, List.flatMap_cons (f := newE (x :: xs)), e2]
        exact (diffM_perm (x :: xs) ys h1 hy2).cons _
      · rename_i hnlt2
        have he0 : x.f0 = y.f0 := sblt_tri (Bool.not_eq_true _ ▸ hnlt) (Bool.not_eq_true _ ▸ hnlt2)
        have e1 : ys.flatMap (newE (x :: xs)) = ys.flatMap (newE xs) := flatMap_congr_ (fun z hz => newE_skip (by rw [he0]; exact sblt_ne (hy z hz)))
        have e2 : xs.flatMap (oldE (y :: ys)) = xs.flatMap (oldE ys) := flatMap_congr_ (fun z hz => oldE_skip (by rw [← he0]; exact sblt_ne (hx z hz)))
        have e3 : oldE (y :: ys) x = [] := by
          unfold oldE
          rw [List.any_cons, decide_eq_true he0.symm, Bool.true_or, if_pos rfl]
        have hr := diffM_perm xs ys hx2 hy2
        rw [List.flatMap_cons, List.flatMap_cons, e1, e2, e3, List.nil_append]
        split
        · rename_i hv
          have e4 : newE (x :: xs) y = [] := by
            unfold newE
            rw [List.any_cons, decide_eq_true he0, decide_eq_true hv, Bool.and_self, Bool.true_or, if_pos rfl]
          rw [e4, List.nil_append]
          exact hr
        · rename_i hv
          have e4 : newE (x :: xs) y = [putE y] := by
            unfold newE
            rw [if_neg]
            intro h
            obtain ⟨z, hz, hk⟩ := List.any_eq_true.mp h
            rw [Bool.and_eq_true, decide_eq_true_eq, decide_eq_true_eq] at hk
            rcases List.mem_cons.mp hz with rfl | hz
            · exact hv hk.2
            · exact sblt_ne (hx z hz) (he0.trans hk.1.symm)
          rw [e4]
          exact hr.cons _
termination_by xs ys => xs.length + ys.length
theorem sort_unique {l m : List S68} (hp : l.Perm m) (hm : m.Pairwise (fun a b => sblt a.f0 b.f0 = true)) : sortE l = m := by
  obtain ⟨h1, h2⟩ := sortE_is l
  have h3 : (sortE l).Perm m := h1.trans hp
  refine List.Perm.eq_of_pairwise (le := fun a b => sblt b.f0 a.f0 = false) ?_ h2 ?_ h3
  · intro a b ha hb k1 k2
    have ha' : a ∈ m := h3.mem_iff.mp ha
    have hk : a.f0 = b.f0 := sblt_tri k2 k1
    rcases List.pairwise_iff_getElem.mp hm with hg
    obtain ⟨i, hi, rfl⟩ := List.mem_iff_getElem.mp ha'
    obtain ⟨j, hj, rfl⟩ := List.mem_iff_getElem.mp hb
    rcases Nat.lt_trichotomy i j with h | h | h
    · exact absurd hk (sblt_ne (hg i j hi hj h))
    · subst h; rfl
    · exact absurd hk.symm (sblt_ne (hg j i hj hi h))
  · exact hm.imp (fun h => sblt_asymm h)
theorem diffM_len : ∀ (xs ys : List S84), (diffM xs ys).length ≤ xs.length + ys.length
  | [], ys => by unfold diffM; rw [List.length_map]; omega
  | x :: xs, [] => by rw [diffM_nil, List.length_map]; omega
  | x :: xs, y :: ys => by
    have h1 := diffM_len xs (y :: ys)
    have h2 := diffM_len (x :: xs) ys
    have h3 := diffM_len xs ys
    simp only [List.length_cons] at *
    unfold diffM
    split
    · simp only [List.length_cons]; omega
    · split
      · simp only [List.length_cons]; omega
      · split
        · omega
        · simp only [List.length_cons]; omega
termination_by xs ys => xs.length + ys.length
theorem sblt_is (a b : ByteArray) : Op.bytesLess a.toList b.toList = sblt a b := rfl
theorem l01Diff_end (a b : List S84) (acc : List S68) : Ev (fun q => spec_l01Diff.l0 q a b acc (a.length : Int) (b.length : Int)) (acc ++ diffM (a.drop a.length) (b.drop b.length)) := by
  refine Ev.at_ (c := 2) (fun q => ?_)
  have c1 : ¬ ((a.length : Int) < (a.length : Int)) := by omega
  have c2 : ¬ ((b.length : Int) < (b.length : Int)) := by omega
  simp only [spec_l01Diff.l0, spec_l01Diff.j1, if_neg c1, decide_eq_false c2, Bool.false_eq_true, if_false, List.drop_length]
  unfold diffM
  simp
theorem l01Diff_loop (a b : List S84) (ha : a.length ≤ 1048576) (hb : b.length ≤ 1048576) : ∀ (d i j : Nat) (acc : List S68), i ≤ a.length → j ≤ b.length → (a.length - i) + (b.length - j) ≤ d → acc.length + d ≤ 100000000 →
    Ev (fun q => spec_l01Diff.l0 q a b acc (i : Int) (j : Int)) (acc ++ diffM (a.drop i) (b.drop j)) := by
  intro d
  induction d with
  | zero =>
    intro i j acc hi hj hd _
    obtain rfl : i = a.length := by omega
    obtain rfl : j = b.length := by omega
    exact l01Diff_end a b acc
  | succ d ih =>
    intro i j acc hi hj hd hacc
    have hlen : acc.length < 4398046511104 := by omega
    have i0 : (0 : Int) ≤ (i : Int) := Int.natCast_nonneg _
    have j0 : (0 : Int) ≤ (j : Int) := Int.natCast_nonneg _
    have wi := wrap_i (show i < 4611686018427387904 by omega)
    have wj := wrap_i (show j < 4611686018427387904 by omega)
    have hap : ∀ (acc : List S68) (e : S68) (l : List S68), acc ++ e :: l = (acc ++ [e]) ++ l := fun acc e l => by simp
    by_cases hil : i < a.length
    · have ci : (i : Int) < (a.length : Int) := by omega
      have ri : rd_T84 a (i : Int) = a[i] := rdEntry hil
      have da : a.drop i = a[i] :: a.drop (i + 1) := List.drop_eq_getElem_cons hil
      by_cases hjl : j < b.length
      · have cj : (j : Int) < (b.length : Int) := by omega
        have cj2 : ¬ ((j : Int) = (b.length : Int)) := by omega
        have rj : rd_T84 b (j : Int) = b[j] := rdEntry hjl
        have db : b.drop j = b[j] :: b.drop (j + 1) := List.drop_eq_getElem_cons hjl
        have ci2 : ¬ ((i : Int) = (a.length : Int)) := by omega
        rw [da, db]
        unfold diffM
        by_cases h1 : sblt a[i].f0 b[j].f0 = true
        · rw [if_pos h1, hap, ← db]
          refine Ev.shift (c := 3) (d := 0) (fun q => ?_) (ih (i + 1) j (acc ++ [delE a[i]]) (by omega) hj (by omega) (by rw [List.length_append]; simp only [List.length_cons, List.length_nil]; omega))
          simp only [spec_l01Diff.l0, spec_l01Diff.j1, spec_l01Diff.j2, if_pos ci, if_true, if_neg cj2, if_pos i0, if_pos j0, if_pos cj, ri, rj, sblt_is, h1, if_pos hlen, wi, Nat.add_zero, delE]
        · rw [if_neg h1]
          have h1f : sblt a[i].f0 b[j].f0 = false := Bool.not_eq_true _ ▸ h1
          by_cases h2 : sblt b[j].f0 a[i].f0 = true
          · rw [if_pos h2, hap, ← da]
            refine Ev.shift (c := 4) (d := 0) (fun q => ?_) (ih i (j + 1) (acc ++ [putE b[j]]) hi (by omega) (by omega) (by rw [List.length_append]; simp only [List.length_cons, List.length_nil]; omega))
            simp only [spec_l01Diff.l0, spec_l01Diff.j1, spec_l01Diff.j2, spec_l01Diff.j3, if_pos ci, if_true, if_neg cj2, if_pos i0, if_pos j0, if_pos cj, ri, rj, sblt_is, h1f, Bool.false_eq_true, if_false, if_neg ci2, h2, if_pos hlen, wj, Nat.add_zero, putE]
          · rw [if_neg h2]
            have h2f : sblt b[j].f0 a[i].f0 = false := Bool.not_eq_true _ ▸ h2
            by_cases h3 : a[i].f1 = b[j].f1
            · rw [if_pos h3]
              refine Ev.shift (c := 4) (d := 0) (fun q => ?_) (ih (i + 1) (j + 1) acc (by omega) (by omega) (by omega) (by omega))
              simp only [spec_l01Diff.l0, spec_l01Diff.j1, spec_l01Diff.j2, spec_l01Diff.j3, if_pos ci, if_true, if_neg cj2, if_pos i0, if_pos j0, if_pos cj, ri, rj, sblt_is, h1f, Bool.false_eq_true, if_false, if_neg ci2, h2f, if_pos h3, wi, wj, Nat.add_zero]
            · rw [if_neg h3, hap]
              refine Ev.shift (c := 4) (d := 0) (fun q => ?_) (ih (i + 1) (j + 1) (acc ++ [putE b[j]]) (by omega) (by omega) (by omega) (by rw [List.length_append]; simp only [List.length_cons, List.length_nil]; omega))
              simp only [spec_l01Diff.l0, spec_l01Diff.j1, spec_l01Diff.j2, spec_l01Diff.j3, if_pos ci, if_true, if_neg cj2, if_pos i0, if_pos j0, if_pos cj, ri, rj, sblt_is, h1f, Bool.false_eq_true, if_false, if_neg ci2, h2f, if_neg h3, if_pos hlen, wi, wj, Nat.add_zero, putE]
      · obtain rfl : j = b.length := by omega
        have hr := ih (i + 1) b.length (acc ++ [delE a[i]]) (by omega) hj (by omega) (by rw [List.length_append]; simp only [List.length_cons, List.length_nil]; omega)
        rw [List.drop_length, diffM_nil] at hr ⊢
        rw [da, List.map_cons, hap]
        refine Ev.shift (c := 3) (d := 0) (fun q => ?_) hr
        simp only [spec_l01Diff.l0, spec_l01Diff.j1, spec_l01Diff.j2, if_pos ci, if_true, if_pos i0, ri, if_pos hlen, wi, Nat.add_zero, delE]
    · obtain rfl : i = a.length := by omega
      by_cases hjl : j < b.length
      case neg =>
        obtain rfl : j = b.length := by omega
        exact l01Diff_end a b acc
      have ci : ¬ ((a.length : Int) < (a.length : Int)) := by omega
      have cj : (j : Int) < (b.length : Int) := by omega
      have cj2 : ¬ ((j : Int) = (b.length : Int)) := by omega
      have rj : rd_T84 b (j : Int) = b[j] := rdEntry hjl
      have db : b.drop j = b[j] :: b.drop (j + 1) := List.drop_eq_getElem_cons hjl
      have hr := ih a.length (j + 1) (acc ++ [putE b[j]]) hi (by omega) (by omega) (by rw [List.length_append]; simp only [List.length_cons, List.length_nil]; omega)
      have e0 : ∀ l : List S84, diffM [] l = l.map putE := fun l => by unfold diffM; rfl
      rw [List.drop_length, e0] at hr ⊢
      rw [db, List.map_cons, hap]
      refine Ev.shift (c := 4) (d := 0) (fun q => ?_) hr
      simp only [spec_l01Diff.l0, spec_l01Diff.j1, spec_l01Diff.j2, spec_l01Diff.j3, if_neg ci, decide_eq_true cj, if_true, if_neg cj2, Bool.false_eq_true, if_false, if_pos j0, if_pos cj, rj, if_pos hlen, wj, Nat.add_zero, putE]
theorem l01Diff_ev (a b : List S84) (ha : a.length ≤ 1048576) (hb : b.length ≤ 1048576) : Ev (fun q => spec_l01Diff.f q a b) (diffM a b) := by
  have h := l01Diff_loop a b ha hb (a.length + b.length) 0 0 [] (Nat.zero_le _) (Nat.zero_le _) (by omega) (by simp only [List.length_nil]; omega)
  rw [List.drop_zero, List.drop_zero, List.nil_append] at h
  exact h
theorem newE_found {a : List S84} {y : S84} {t : Nat} (h : RiseP a) (ht : t < a.length) (hk : a[t].f0 = y.f0) : newE a y = if a[t].f1 = y.f1 then [] else [putE y] := by
  unfold newE
  by_cases hv : a[t].f1 = y.f1
  · rw [if_pos hv, if_pos]
    exact List.any_eq_true.mpr ⟨a[t], List.getElem_mem ht, by rw [decide_eq_true hk, decide_eq_true hv]; rfl⟩
  · rw [if_neg hv, if_neg]
    intro hh
    obtain ⟨z, hz, hq⟩ := List.any_eq_true.mp hh
    rw [Bool.and_eq_true, decide_eq_true_eq, decide_eq_true_eq] at hq
    obtain ⟨s, hs, rfl⟩ := List.mem_iff_getElem.mp hz
    have e1 := (find_some h hs hq.1).1
    have e2 := (find_some h ht hk).1
    obtain rfl : s = t := by rw [← e1, e2]
    exact hv hq.2
theorem newE_none {a : List S84} {y : S84} (h : ∀ i (hi : i < a.length), a[i].f0 ≠ y.f0) : newE a y = [putE y] := by
  unfold newE
  rw [if_neg]
  intro hh
  obtain ⟨z, hz, hq⟩ := List.any_eq_true.mp hh
  rw [Bool.and_eq_true, decide_eq_true_eq] at hq
  obtain ⟨s, hs, rfl⟩ := List.mem_iff_getElem.mp hz
  exact h s hs hq.1
theorem oldE_found {b : List S84} {x : S84} {t : Nat} (ht : t < b.length) (hk : b[t].f0 = x.f0) : oldE b x = [] := by
  unfold oldE
  rw [if_pos]
  exact List.any_eq_true.mpr ⟨b[t], List.getElem_mem ht, decide_eq_true hk⟩
theorem oldE_none {b : List S84} {x : S84} (h : ∀ i (hi : i < b.length), b[i].f0 ≠ x.f0) : oldE b x = [delE x] := by
  unfold oldE
  rw [if_neg]
  intro hh
  obtain ⟨z, hz, hq⟩ := List.any_eq_true.mp hh
  obtain ⟨s, hs, rfl⟩ := List.mem_iff_getElem.mp hz
  exact h s hs (of_decide_eq_true hq)
theorem diff_l1 (a b : List S84) (hra : RiseP a) (hrb : RiseP b) (ha : a.length ≤ 1048576) (hb : b.length ≤ 1048576) : ∀ (d i : Nat) (acc : List S68), i + d = a.length → acc.length + d ≤ 100000000 →
    Ev (fun q => impl_diff.l1 q b acc a (a.length : Int) (i : Int)) (sortE (acc ++ (a.drop i).flatMap (oldE b))) := by
  intro d
  induction d with
  | zero =>
    intro i acc hi hacc
    obtain rfl : i = a.length := by omega
    have c1 : ¬ ((a.length : Int) < (a.length : Int)) := by omega
    have hlen : acc.length < 4611686018427387904 := by omega
    refine Ev.at_ (c := 1) (fun q => ?_)
    rw [List.drop_length, List.flatMap_nil, List.append_nil]
    simp only [impl_diff.l1, if_neg c1, sort_Edit.f, if_pos hlen, Option.bind_some]
  | succ d ih =>
    intro i acc hi hacc
    have hil : i < a.length := by omega
    have c1 : (i : Int) < (a.length : Int) := by omega
    have i0 : (0 : Int) ≤ (i : Int) := Int.natCast_nonneg _
    have ri : rd_T84 a (i : Int) = a[i] := rdEntry hil
    have hlen : acc.length < 4398046511104 := by omega
    have w := wrap_i (show i < 4611686018427387904 by omega)
    rw [List.drop_eq_getElem_cons hil, List.flatMap_cons]
    by_cases hx : ∃ t, ∃ ht : t < b.length, b[t].f0 = a[i].f0
    · obtain ⟨t, ht, hk⟩ := hx
      obtain ⟨e1, e2⟩ := find_some hrb ht hk
      have hf : impl_find.f b a[i].f0 = some ((t : Int), true) := by rw [find_f hrb hb, e1, e2]
      rw [oldE_found ht hk, List.nil_append]
      refine Ev.shift (c := 1) (d := 0) (fun q => ?_) (ih (i + 1) acc (by omega) (by omega))
      simp only [impl_diff.l1, if_pos c1, if_pos i0, ri, hf, Option.bind_some, if_true, w, Nat.add_zero]
    · have hn : ∀ t (ht : t < b.length), b[t].f0 ≠ a[i].f0 := fun t ht hk => hx ⟨t, ht, hk⟩
      have hf : impl_find.f b a[i].f0 = some (((cntN (cmpK a[i].f0) b : Nat) : Int), false) := by rw [find_f hrb hb, find_none hn]
      rw [oldE_none hn, ← List.append_assoc]
      refine Ev.shift (c := 1) (d := 0) (fun q => ?_) (ih (i + 1) (acc ++ [delE a[i]]) (by omega) (by rw [List.length_append]; simp only [List.length_cons, List.length_nil]; omega))
      simp only [impl_diff.l1, if_pos c1, if_pos i0, ri, hf, Option.bind_some, Bool.false_eq_true, if_false, if_pos hlen, w, Nat.add_zero, delE]
theorem diff_l0 (a b : List S84) (hra : RiseP a) (hrb : RiseP b) (ha : a.length ≤ 1048576) (hb : b.length ≤ 1048576) : ∀ (d i : Nat) (acc : List S68), i + d = b.length → acc.length + d ≤ 90000000 →
    Ev (fun q => impl_diff.l0 q a b acc b (b.length : Int) (i : Int)) (sortE (acc ++ ((b.drop i).flatMap (newE a) ++ a.flatMap (oldE b)))) := by
  intro d
  induction d with
  | zero =>
    intro i acc hi hacc
    obtain rfl : i = b.length := by omega
    have c1 : ¬ ((b.length : Int) < (b.length : Int)) := by omega
    have h := diff_l1 a b hra hrb ha hb a.length 0 acc (by omega) (by omega)
    rw [List.drop_zero] at h
    rw [List.drop_length, List.flatMap_nil, List.nil_append]
    refine Ev.shift (c := 1) (d := 0) (fun q => ?_) h
    simp only [impl_diff.l0, if_neg c1, Nat.add_zero]
    rfl
  | succ d ih =>
    intro i acc hi hacc
    have hil : i < b.length := by omega
    have c1 : (i : Int) < (b.length : Int) := by omega
    have i0 : (0 : Int) ≤ (i : Int) := Int.natCast_nonneg _
    have ri : rd_T84 b (i : Int) = b[i] := rdEntry hil
    have hlen : acc.length < 4398046511104 := by omega
    have w := wrap_i (show i < 4611686018427387904 by omega)
    have hadd : ∀ (e : S68) (l : List S68), acc ++ ([e] ++ l ++ a.flatMap (oldE b)) = (acc ++ [e]) ++ (l ++ a.flatMap (oldE b)) := fun e l => by simp
    rw [List.drop_eq_getElem_cons hil, List.flatMap_cons]
    by_cases hx : ∃ t, ∃ ht : t < a.length, a[t].f0 = b[i].f0
    · obtain ⟨t, ht, hk⟩ := hx
      obtain ⟨e1, e2⟩ := find_some hra ht hk
      have hf : impl_find.f a b[i].f0 = some ((t : Int), true) := by rw [find_f hra ha, e1, e2]
      have t0 : (0 : Int) ≤ (t : Int) := Int.natCast_nonneg _
      have t1 : (t : Int) < (a.length : Int) := by omega
      have rt : rd_T84 a (t : Int) = a[t] := rdEntry ht
      rw [newE_found hra ht hk]
      by_cases hv : a[t].f1 = b[i].f1
      · rw [if_pos hv, List.nil_append]
        refine Ev.shift (c := 1) (d := 0) (fun q => ?_) (ih (i + 1) acc (by omega) (by omega))
        simp only [impl_diff.l0, if_pos c1, if_pos i0, ri, hf, Option.bind_some, if_true, if_pos t0, if_pos t1, rt, if_pos hv, w, Nat.add_zero]
      · rw [if_neg hv, hadd]
        refine Ev.shift (c := 1) (d := 0) (fun q => ?_) (ih (i + 1) (acc ++ [putE b[i]]) (by omega) (by rw [List.length_append]; simp only [List.length_cons, List.length_nil]; omega))
        simp only [impl_diff.l0, if_pos c1, if_pos i0, ri, hf, Option.bind_some, if_true, if_pos t0, if_pos t1, rt, if_neg hv, if_pos hlen, w, Nat.add_zero, putE]
    · have hn : ∀ t (ht : t < a.length), a[t].f0 ≠ b[i].f0 := fun t ht hk => hx ⟨t, ht, hk⟩
      have hf : impl_find.f a b[i].f0 = some (((cntN (cmpK b[i].f0) a : Nat) : Int), false) := by rw [find_f hra ha, find_none hn]
      rw [newE_none hn, hadd]
      refine Ev.shift (c := 1) (d := 0) (fun q => ?_) (ih (i + 1) (acc ++ [putE b[i]]) (by omega) (by rw [List.length_append]; simp only [List.length_cons, List.length_nil]; omega))
      simp only [impl_diff.l0, if_pos c1, if_pos i0, ri, hf, Option.bind_some, Bool.false_eq_true, if_false, if_pos hlen, w, Nat.add_zero, putE]
theorem diff_ev (a b : List S84) (hra : RiseP a) (hrb : RiseP b) (ha : a.length ≤ 1048576) (hb : b.length ≤ 1048576) : Ev (fun q => impl_diff.f q a b) (diffM a b) := by
  have h := diff_l0 a b hra hrb ha hb b.length 0 [] (by omega) (by simp only [List.length_nil]; omega)
  rw [List.drop_zero, List.nil_append, sort_unique (diffM_perm a b hra hrb) (diffM_rise a b hra hrb)] at h
  exact h
end Go.Proofs.YtblejbgkcgajgaaGreat.Q
end

section
namespace Go.Proofs.YtblejbgkcgajgaaGreat.Q
open Go.RowKit Go.Proofs.YtblejbgkcgajgaaGreatW.PrintWords Go.Proofs.YtblejbgkcgajgaaGreatW.PrintLast
set_option linter.unusedVariables false
set_option linter.unusedSimpArgs false
theorem cntN_le (c : S84 → Int) (l : List S84) : cntN c l ≤ l.length := List.countP_le_length
theorem cnt_at {l : List S84} (h : RiseP l) (k : ByteArray) : ∀ t (ht : t < l.length), (t < cntN (cmpK k) l ↔ sblt l[t].f0 k = true) := by
  have hp := List.pairwise_iff_getElem.mp h
  -- the first place that is not less
  have key : ∀ d i, i + d = l.length → (∀ t (ht : t < l.length), t < i → sblt l[t].f0 k = true) → ∃ c, c ≤ l.length ∧ (∀ t (ht : t < l.length), t < c → sblt l[t].f0 k = true) ∧ (∀ t (ht : t < l.length), c ≤ t → sblt l[t].f0 k = false) := by
    intro d
    induction d with
    | zero => intro i hi hlo; exact ⟨i, by omega, hlo, fun t ht h2 => by omega⟩
    | succ d ih =>
      intro i hi hlo
      have hl : i < l.length := by omega
      cases hb : sblt l[i].f0 k with
      | true =>
        refine ih (i + 1) (by omega) (fun t ht h2 => ?_)
        rcases Nat.lt_or_eq_of_le (Nat.le_of_lt_succ h2) with h3 | h3
        · exact hlo t ht h3
        · subst h3; exact hb
      | false =>
        refine ⟨i, by omega, hlo, fun t ht h2 => ?_⟩
        rcases Nat.lt_or_eq_of_le h2 with h3 | h3
        · cases hb2 : sblt l[t].f0 k with
          | false => rfl
          | true =>
            have := sblt_trans (hp i t hl ht h3) hb2
            rw [hb] at this
            cases this
        · subst h3; exact hb
  obtain ⟨c, hc, h1, h2⟩ := key l.length 0 (by omega) (fun t ht h2 => absurd h2 (Nat.not_lt_zero _))
  have e : cntN (cmpK k) l = c := by
    refine cntN_is l c hc (fun t ht h3 => (cmpK_lt _ _).mpr (h1 t ht h3)) (fun t ht h3 => ?_)
    have h4 : ¬ cmpK k l[t] < 0 := by
      rw [cmpK_lt, h2 t ht h3]
      simp
    omega
  intro t ht
  rw [e]
  constructor
  · exact h1 t ht
  · intro h3
    rcases Nat.lt_or_ge t c with h4 | h4
    · exact h4
    · rw [h2 t ht h4] at h3
      cases h3
theorem fnd_at {l : List S84} (h : RiseP l) (k : ByteArray) : fndB (cmpK k) l = true ↔ ∃ hc : cntN (cmpK k) l < l.length, (l[cntN (cmpK k) l]'hc).f0 = k := by
  unfold fndB
  constructor
  · intro h1
    cases hx : l[cntN (cmpK k) l]? with
    | none => rw [hx] at h1; cases h1
    | some x =>
      rw [hx] at h1
      obtain ⟨hi, rfl⟩ := List.getElem?_eq_some_iff.mp hx
      exact ⟨hi, cmpK_self.mp (by simpa using h1)⟩
  · rintro ⟨hc, e⟩
    rw [List.getElem?_eq_getElem hc]
    simp only [beq_iff_eq]
    exact cmpK_self.mpr e
def behK (k : ByteArray) (l : List S84) : Nat := cntN (cmpK k) l + if fndB (cmpK k) l = true then 1 else 0
theorem behK_le {l : List S84} (h : RiseP l) (k : ByteArray) : behK k l ≤ l.length := by
  unfold behK
  by_cases hf : fndB (cmpK k) l = true
  · obtain ⟨hc, _⟩ := (fnd_at h k).mp hf
    rw [if_pos hf]
    omega
  · rw [if_neg hf]
    have := cntN_le (cmpK k) l
    omega
theorem beh_at {l : List S84} (h : RiseP l) (k : ByteArray) : ∀ t (ht : t < l.length), behK k l ≤ t → sblt k l[t].f0 = true := by
  intro t ht hb
  have hp := List.pairwise_iff_getElem.mp h
  unfold behK at hb
  by_cases hf : fndB (cmpK k) l = true
  · obtain ⟨hc, e⟩ := (fnd_at h k).mp hf
    rw [if_pos hf] at hb
    rw [← e]
    exact hp _ t hc ht (by omega)
  · rw [if_neg hf] at hb
    have h1 : sblt l[t].f0 k = false := by
      cases h2 : sblt l[t].f0 k with
      | false => rfl
      | true => have := (cnt_at h k t ht).mpr h2; omega
    cases h3 : sblt k l[t].f0 with
    | true => rfl
    | false =>
      exfalso
      have e := sblt_tri h1 h3
      apply hf
      rw [fnd_at h k]
      have hc : cntN (cmpK k) l = t := by
        rcases Nat.lt_or_ge (cntN (cmpK k) l) t with h4 | h4
        · have h5 := hp _ t (by omega) ht h4
          rw [e] at h5
          have := (cnt_at h k _ (by omega)).mpr h5
          omega
        · omega
      exact ⟨by omega, by simp only [hc]; exact e⟩
def putL (l : List S84) (k : ByteArray) (v : Int) : List S84 := l.take (cntN (cmpK k) l) ++ ⟨k, v⟩ :: l.drop (behK k l)
def remL (l : List S84) (k : ByteArray) : List S84 := l.take (cntN (cmpK k) l) ++ l.drop (behK k l)
theorem remL_rise {l : List S84} (h : RiseP l) (k : ByteArray) : RiseP (remL l k) := by
  unfold remL RiseP
  rw [List.pairwise_append]
  refine ⟨h.sublist (List.take_sublist _ _), h.sublist (List.drop_sublist _ _), fun a ha b hb => ?_⟩
  obtain ⟨i, hi, rfl⟩ := List.mem_take_iff_getElem.mp ha
  obtain ⟨j, hj, rfl⟩ := List.mem_drop_iff_getElem.mp hb
  have h1 := (cnt_at h k i (by omega)).mp (by omega)
  have h2 := beh_at h k (behK k l + j) (by omega) (by omega)
  exact sblt_trans h1 h2
theorem putL_rise {l : List S84} (h : RiseP l) (k : ByteArray) (v : Int) : RiseP (putL l k v) := by
  unfold putL RiseP
  rw [List.pairwise_append, List.pairwise_cons]
  refine ⟨h.sublist (List.take_sublist _ _), ⟨fun b hb => ?_, h.sublist (List.drop_sublist _ _)⟩, fun a ha b hb => ?_⟩
  · obtain ⟨j, hj, rfl⟩ := List.mem_drop_iff_getElem.mp hb
    exact beh_at h k (behK k l + j) (by omega) (by omega)
  · obtain ⟨i, hi, rfl⟩ := List.mem_take_iff_getElem.mp ha
    have h1 := (cnt_at h k i (by omega)).mp (by omega)
    rcases List.mem_cons.mp hb with rfl | hb
    · exact h1
    · obtain ⟨j, hj, rfl⟩ := List.mem_drop_iff_getElem.mp hb
      exact sblt_trans h1 (beh_at h k (behK k l + j) (by omega) (by omega))
theorem putL_len (l : List S84) (k : ByteArray) (v : Int) : (putL l k v).length ≤ l.length + 1 := by
  unfold putL
  have h1 := cntN_le (cmpK k) l
  have h2 : cntN (cmpK k) l ≤ behK k l := by unfold behK; omega
  rw [List.length_append, List.length_take, List.length_cons, List.length_drop]
  omega
theorem remL_len (l : List S84) (k : ByteArray) : (remL l k).length ≤ l.length := by
  unfold remL
  have h1 := cntN_le (cmpK k) l
  have h2 : cntN (cmpK k) l ≤ behK k l := by unfold behK; omega
  rw [List.length_append, List.length_take, List.length_drop]
  omega
end Go.Proofs.YtblejbgkcgajgaaGreat.Q
end

section
namespace Go.Proofs.YtblejbgkcgajgaaGreat.Q
open Go.RowKit Go.Proofs.YtblejbgkcgajgaaGreatW.PrintWords Go.Proofs.YtblejbgkcgajgaaGreatW.PrintLast
set_option linter.unusedVariables false
set_option linter.unusedSimpArgs false
theorem behK_found {l : List S84} {k : ByteArray} (h : fndB (cmpK k) l = true) : behK k l = cntN (cmpK k) l + 1 := by
  unfold behK
  rw [if_pos h]
theorem behK_new {l : List S84} {k : ByteArray} (h : fndB (cmpK k) l = false) : behK k l = cntN (cmpK k) l := by
  unfold behK
  rw [h, if_neg (by simp)]
  omega
def edit1 (l : List S84) (e : S68) : List S84 := if e.f2 = true then remL l e.f0 else putL l e.f0 e.f1
theorem edit1_rise {l : List S84} (h : RiseP l) (e : S68) : RiseP (edit1 l e) := by
  unfold edit1
  split
  · exact remL_rise h _
  · exact putL_rise h _ _
theorem edit1_len (l : List S84) (e : S68) : (edit1 l e).length ≤ l.length + 1 := by
  unfold edit1
  split
  · have := remL_len l e.f0
    omega
  · exact putL_len l _ _
theorem clone_e {l : List S84} (h : l.length ≤ 2000000) : impl_Entry_124.f l = some l := by
  unfold impl_Entry_124.f
  simp only [Option.bind_some, List.length_nil, Nat.zero_add, List.nil_append, (show l.length < 5864062014805 by omega), if_true]
theorem delete_at {l : List S84} {c : Nat} (h : c < l.length) (hl : l.length ≤ 2000000) : impl_Entry_125.f l (c : Int) (wrap64 ((c : Int) + 1)) = some (l.take c ++ l.drop (c + 1)) := by
  have hw : wrap64 ((c : Int) + 1) = (c : Int) + 1 := by unfold wrap64; omega
  unfold impl_Entry_125.f
  rw [hw, if_pos (by omega), if_pos rfl, if_pos (by omega), Int.toNat_natCast]
theorem insert_at {l : List S84} {c : Nat} (x : S84) (h : c ≤ l.length) (hl : l.length ≤ 2000000) : impl_Entry_126.f l (c : Int) [x] = some (l.take c ++ x :: l.drop c) := by
  unfold impl_Entry_126.f
  simp only [Int.natCast_nonneg, if_true, (show ((c : Int) ≤ (l.length : Int)) by omega), (show l.length < 5000000 by omega), Int.toNat_natCast, List.append_assoc, List.cons_append, List.nil_append]
theorem edited_loop (ed : List S68) (hed : ed.length ≤ 1000000) : ∀ (d i : Nat) (l : List S84), i + d = ed.length → RiseP l → l.length + d ≤ 1000000 → Ev (fun k => impl_edited.l0 k l ed (ed.length : Int) (i : Int)) ((ed.drop i).foldl edit1 l) := by
  intro d
  induction d with
  | zero =>
    intro i l hi hr hl
    rw [List.drop_of_length_le (by omega)]
    refine Ev.at_ (c := 1) (fun k => ?_)
    simp only [impl_edited.l0]
    rw [if_neg (by omega)]
    rfl
  | succ d ih =>
    intro i l hi hr hl
    have hil : i < ed.length := by omega
    have c1 : (i : Int) < (ed.length : Int) := by omega
    have e1 : rd_T68 ed (i : Int) = ed[i] := by simp [rd_T68, List.getD_eq_getElem?_getD, List.getElem?_eq_getElem hil]
    have hn := ih (i + 1) (edit1 l ed[i]) (by omega) (edit1_rise hr _) (by have := edit1_len l ed[i]; omega)
    rw [List.drop_eq_getElem_cons hil, List.foldl_cons]
    have hcl := cntN_le (cmpK ed[i].f0) l
    refine Ev.succ ?_
    simp only [impl_edited.l0, c1, Int.natCast_nonneg, if_true, e1, find_f hr (show l.length ≤ 1048576 by omega), Option.bind_some, wrap_i (show i < 4611686018427387904 by omega)]
    cases hf : fndB (cmpK ed[i].f0) l with
    | true =>
      obtain ⟨hc, _⟩ := (fnd_at hr ed[i].f0).mp hf
      have hdl : (l.take (cntN (cmpK ed[i].f0) l) ++ l.drop (cntN (cmpK ed[i].f0) l + 1)).length ≤ 2000000 := by
        rw [List.length_append, List.length_take, List.length_drop]; omega
      have hdc : cntN (cmpK ed[i].f0) l ≤ (l.take (cntN (cmpK ed[i].f0) l) ++ l.drop (cntN (cmpK ed[i].f0) l + 1)).length := by
        rw [List.length_append, List.length_take, List.length_drop]; omega
      have ht : (l.take (cntN (cmpK ed[i].f0) l) ++ l.drop (cntN (cmpK ed[i].f0) l + 1)).take (cntN (cmpK ed[i].f0) l) = l.take (cntN (cmpK ed[i].f0) l) := by
        rw [List.take_append_of_le_length (by rw [List.length_take]; omega), List.take_take, Nat.min_self]
      have hdd : (l.take (cntN (cmpK ed[i].f0) l) ++ l.drop (cntN (cmpK ed[i].f0) l + 1)).drop (cntN (cmpK ed[i].f0) l) = l.drop (cntN (cmpK ed[i].f0) l + 1) := by
        rw [List.drop_append, List.drop_eq_nil_of_le (by rw [List.length_take]; omega), List.length_take, Nat.min_eq_left (by omega), Nat.sub_self, List.drop_zero, List.nil_append]
      simp only [if_true, delete_at hc (show l.length ≤ 2000000 by omega), Option.bind_some, insert_at _ hdc hdl, ht, hdd]
      cases hg : ed[i].f2 with
      | true =>
        have he : edit1 l ed[i] = l.take (cntN (cmpK ed[i].f0) l) ++ l.drop (cntN (cmpK ed[i].f0) l + 1) := by
          unfold edit1 remL
          rw [if_pos hg, behK_found hf]
        simp only [if_true]
        rw [he] at hn
        rw [he]
        exact hn
      | false =>
        have he : edit1 l ed[i] = l.take (cntN (cmpK ed[i].f0) l) ++ ⟨ed[i].f0, ed[i].f1⟩ :: l.drop (cntN (cmpK ed[i].f0) l + 1) := by
          unfold edit1 putL
          rw [if_neg (by simp [hg]), behK_found hf]
        simp only [Bool.false_eq_true, if_false]
        rw [he] at hn
        rw [he]
        exact hn
    | false =>
      simp only [Bool.false_eq_true, if_false, insert_at _ hcl (show l.length ≤ 2000000 by omega), Option.bind_some]
      cases hg : ed[i].f2 with
      | true =>
        have he : edit1 l ed[i] = l := by
          unfold edit1 remL
          rw [if_pos hg, behK_new hf, List.take_append_drop]
        simp only [if_true]
        rw [he] at hn
        rw [he]
        exact hn
      | false =>
        have he : edit1 l ed[i] = l.take (cntN (cmpK ed[i].f0) l) ++ ⟨ed[i].f0, ed[i].f1⟩ :: l.drop (cntN (cmpK ed[i].f0) l) := by
          unfold edit1 putL
          rw [if_neg (by simp [hg]), behK_new hf]
        simp only [Bool.false_eq_true, if_false]
        rw [he] at hn
        rw [he]
        exact hn
theorem edited_ev {l : List S84} (ed : List S68) (hr : RiseP l) (hl : l.length + ed.length ≤ 1000000) : Ev (fun k => impl_edited.f k l ed) (ed.foldl edit1 l) := by
  unfold impl_edited.f
  rw [clone_e (by omega)]
  simp only [Option.bind_some]
  have h := edited_loop ed (by omega) ed.length 0 l (by omega) hr hl
  rw [List.drop_zero] at h
  exact h
theorem take_next {l : List S84} {i : Nat} (h : i < l.length) : l.take (i + 1) = l.take i ++ [l[i]] := by
  rw [List.take_add_one, List.getElem?_eq_getElem h]
  rfl
theorem drop_next {l : List S84} {i b : Nat} (h : i < l.length) (hb : b ≤ i) : (l.take (i + 1)).drop b = (l.take i).drop b ++ [l[i]] := by
  rw [take_next h, List.drop_append_of_le_length (by rw [List.length_take]; omega)]
def putAcc (l : List S84) (k : ByteArray) (v : Int) (i : Nat) : List S84 := if i ≤ cntN (cmpK k) l then l.take i else l.take (cntN (cmpK k) l) ++ ⟨k, v⟩ :: (l.take i).drop (behK k l)
theorem putAcc_len (l : List S84) (k : ByteArray) (v : Int) (i : Nat) (hl : l.length ≤ 1000000) : (putAcc l k v i).length < 5864062014805 - 1 := by
  unfold putAcc
  have h1 := cntN_le (cmpK k) l
  split
  · rw [List.length_take]; omega
  · rw [List.length_append, List.length_take, List.length_cons, List.length_drop, List.length_take]; omega
theorem key_ne {l : List S84} (hr : RiseP l) (k : ByteArray) (i : Nat) (hi : i < l.length) (h : i ≠ cntN (cmpK k) l ∨ fndB (cmpK k) l = false) : ¬ (l[i].f0.toList = k.toList) := by
  intro e
  have e2 := toList_inj e
  obtain ⟨h1, h2⟩ := find_some hr hi e2
  rcases h with h | h
  · exact h h1.symm
  · rw [h2] at h; cases h
theorem l01Put_loop {l : List S84} (hr : RiseP l) (k : ByteArray) (v : Int) (hl : l.length ≤ 1000000) : ∀ (d i : Nat), i + d = l.length → Ev (fun q => spec_l01Put.l0 q l k v (putAcc l k v i) (decide (cntN (cmpK k) l < i)) (i : Int)) (putL l k v) := by
  have hcl := cntN_le (cmpK k) l
  have hbl := behK_le hr k
  have hcb : cntN (cmpK k) l ≤ behK k l := by unfold behK; omega
  have hbc : behK k l ≤ cntN (cmpK k) l + 1 := by unfold behK; split <;> omega
  intro d
  induction d with
  | zero =>
    intro i hi
    obtain rfl : i = l.length := by omega
    refine Ev.at_ (c := 1) (fun q => ?_)
    simp only [spec_l01Put.l0]
    rw [if_neg (by omega)]
    by_cases hc : cntN (cmpK k) l < l.length
    · simp only [hc, decide_true, if_true]
      unfold putAcc putL
      rw [if_neg (by omega), List.take_length]
    · have hce : cntN (cmpK k) l = l.length := by omega
      have hlt := putAcc_len l k v l.length hl
      simp only [hc, decide_false, Bool.false_eq_true, if_false, (show (putAcc l k v l.length).length < 5864062014805 by omega), if_true]
      unfold putAcc putL
      rw [if_pos (by omega), hce, List.drop_of_length_le (by omega)]
  | succ d ih =>
    intro i hi
    have hil : i < l.length := by omega
    have c1 : (i : Int) < (l.length : Int) := by omega
    have e1 : rd_T84 l (i : Int) = l[i] := rdEntry hil
    have hn := ih (i + 1) (by omega)
    have hlt := putAcc_len l k v i hl
    have hlt2 : (putAcc l k v i).length < 5864062014805 := by omega
    have w := wrap_i (show i < 4611686018427387904 by omega)
    rcases Nat.lt_trichotomy i (cntN (cmpK k) l) with hic | hic | hic
    · -- ahead of the key
      have hless : Op.bytesLess l[i].f0.toList k.toList = true := (cnt_at hr k i hil).mp hic
      have hne := key_ne hr k i hil (.inl (by omega))
      have d0 : decide (cntN (cmpK k) l < i) = false := decide_eq_false (by omega)
      have d1 : decide (cntN (cmpK k) l < i + 1) = false := decide_eq_false (by omega)
      have ha : putAcc l k v (i + 1) = putAcc l k v i ++ [l[i]] := by
        unfold putAcc
        rw [if_pos (by omega), if_pos (by omega), take_next hil]
      rw [d1, ha] at hn
      refine Ev.succ (Ev.succ ?_)
      simp only [spec_l01Put.l0, spec_l01Put.j1, c1, if_true, d0, Bool.false_eq_true, if_false, Int.natCast_nonneg, e1, hless, Bool.not_true, hne, hlt2, w]
      exact hn
    · -- at its place
      have hless : Op.bytesLess l[i].f0.toList k.toList = false := by
        cases hb : Op.bytesLess l[i].f0.toList k.toList with
        | false => rfl
        | true =>
          have := (cnt_at hr k i hil).mpr hb
          omega
      have d0 : decide (cntN (cmpK k) l < i) = false := decide_eq_false (by omega)
      have d1 : decide (cntN (cmpK k) l < i + 1) = true := decide_eq_true (by omega)
      have ha0 : putAcc l k v i = l.take i := by unfold putAcc; rw [if_pos (by omega)]
      have hlt3 : (l.take i ++ [(⟨k, v⟩ : S84)]).length < 5864062014805 := by rw [List.length_append, List.length_take, List.length_singleton]; omega
      have hlt4 : (l.take i).length < 5864062014805 := by rw [List.length_take]; omega
      have ha1 : putAcc l k v (i + 1) = l.take i ++ ⟨k, v⟩ :: (l.take (i + 1)).drop (behK k l) := by unfold putAcc; rw [if_neg (by omega), ← hic]
      rw [d1, ha1] at hn
      refine Ev.succ (Ev.succ ?_)
      simp only [spec_l01Put.l0, spec_l01Put.j1, c1, if_true, d0, Bool.false_eq_true, if_false, Int.natCast_nonneg, e1, hless, Bool.not_false, ha0, hlt4, Option.bind_some, w]
      cases hf : fndB (cmpK k) l with
      | true =>
        obtain ⟨hc, hk⟩ := (fnd_at hr k).mp hf
        have hkk : l[i].f0.toList = k.toList := by
          have : l[i].f0 = k := by simpa [hic] using hk
          rw [this]
        simp only [hkk, if_true]
        rw [behK_found hf, ← hic, List.drop_of_length_le (by rw [List.length_take]; omega)] at hn
        exact hn
      | false =>
        have hne := key_ne hr k i hil (.inr hf)
        simp only [hne, if_false, hlt3, if_true]
        rw [behK_new hf, ← hic, drop_next hil (Nat.le_refl i), List.drop_of_length_le (by rw [List.length_take]; omega), List.nil_append] at hn
        rw [List.append_assoc]
        exact hn
    · -- behind it
      have hne := key_ne hr k i hil (.inl (by omega))
      have d0 : decide (cntN (cmpK k) l < i) = true := decide_eq_true hic
      have d1 : decide (cntN (cmpK k) l < i + 1) = true := decide_eq_true (by omega)
      have ha : putAcc l k v (i + 1) = putAcc l k v i ++ [l[i]] := by
        unfold putAcc
        rw [if_neg (by omega), if_neg (by omega), drop_next hil (by omega), List.append_assoc, List.cons_append]
      rw [d1, ha] at hn
      refine Ev.succ (Ev.succ ?_)
      simp only [spec_l01Put.l0, spec_l01Put.j1, c1, if_true, d0, Bool.false_eq_true, if_false, Int.natCast_nonneg, e1, hne, hlt2, w]
      exact hn
theorem l01Put_ev {l : List S84} (hr : RiseP l) (k : ByteArray) (v : Int) (hl : l.length ≤ 1000000) : Ev (fun q => spec_l01Put.f q l k v) (putL l k v) := by
  unfold spec_l01Put.f
  have h := l01Put_loop hr k v hl l.length 0 (by omega)
  have e : putAcc l k v 0 = [] := by unfold putAcc; rw [if_pos (Nat.zero_le _), List.take_zero]
  have d : decide (cntN (cmpK k) l < 0) = false := decide_eq_false (by omega)
  rw [e, d] at h
  exact h
def remAcc (l : List S84) (k : ByteArray) (i : Nat) : List S84 := if i ≤ cntN (cmpK k) l then l.take i else l.take (cntN (cmpK k) l) ++ (l.take i).drop (behK k l)
theorem l01Remove_loop {l : List S84} (hr : RiseP l) (k : ByteArray) (hl : l.length ≤ 1000000) : ∀ (d i : Nat), i + d = l.length → Ev (fun q => spec_l01Remove.l0 q l k (remAcc l k i) (i : Int)) (remL l k) := by
  have hcl := cntN_le (cmpK k) l
  have hbl := behK_le hr k
  have hcb : cntN (cmpK k) l ≤ behK k l := by unfold behK; omega
  have hbc : behK k l ≤ cntN (cmpK k) l + 1 := by unfold behK; split <;> omega
  intro d
  induction d with
  | zero =>
    intro i hi
    obtain rfl : i = l.length := by omega
    refine Ev.at_ (c := 1) (fun q => ?_)
    simp only [spec_l01Remove.l0]
    rw [if_neg (by omega)]
    unfold remAcc remL
    by_cases hc : cntN (cmpK k) l < l.length
    · rw [if_neg (by omega), List.take_length]
    · have hce : cntN (cmpK k) l = l.length := by omega
      rw [if_pos (by omega), hce, List.drop_of_length_le (by omega), List.append_nil]
  | succ d ih =>
    intro i hi
    have hil : i < l.length := by omega
    have c1 : (i : Int) < (l.length : Int) := by omega
    have e1 : rd_T84 l (i : Int) = l[i] := rdEntry hil
    have hn := ih (i + 1) (by omega)
    have hlt2 : (remAcc l k i).length < 5864062014805 := by
      unfold remAcc
      split
      · rw [List.length_take]; omega
      · rw [List.length_append, List.length_take, List.length_drop, List.length_take]; omega
    have w := wrap_i (show i < 4611686018427387904 by omega)
    by_cases hat : i = cntN (cmpK k) l ∧ fndB (cmpK k) l = true
    · obtain ⟨hic, hf⟩ := hat
      obtain ⟨hc, hk⟩ := (fnd_at hr k).mp hf
      have hkk : l[i].f0.toList = k.toList := by
        have : l[i].f0 = k := by simpa [hic] using hk
        rw [this]
      have ha : remAcc l k (i + 1) = remAcc l k i := by
        unfold remAcc
        rw [if_neg (by omega), if_pos (by omega), behK_found hf, ← hic, List.drop_of_length_le (by rw [List.length_take]; omega), List.append_nil]
      rw [ha] at hn
      refine Ev.succ ?_
      simp only [spec_l01Remove.l0, c1, if_true, Int.natCast_nonneg, e1, hkk, w]
      exact hn
    · have hne := key_ne hr k i hil (by
        by_cases h1 : i = cntN (cmpK k) l
        · right
          cases hf : fndB (cmpK k) l with
          | false => rfl
          | true => exact absurd ⟨h1, hf⟩ hat
        · exact .inl h1)
      have ha : remAcc l k (i + 1) = remAcc l k i ++ [l[i]] := by
        unfold remAcc
        rcases Nat.lt_trichotomy i (cntN (cmpK k) l) with hic | hic | hic
        · rw [if_pos (by omega), if_pos (by omega), take_next hil]
        · have hf : fndB (cmpK k) l = false := by
            cases hf : fndB (cmpK k) l with
            | false => rfl
            | true => exact absurd ⟨hic, hf⟩ hat
          rw [if_neg (by omega), if_pos (by omega), behK_new hf, ← hic, drop_next hil (Nat.le_refl i), List.drop_of_length_le (by rw [List.length_take]; omega), List.nil_append]
        · rw [if_neg (by omega), if_neg (by omega), drop_next hil (by omega), List.append_assoc]
      rw [ha] at hn
      refine Ev.succ ?_
      simp only [spec_l01Remove.l0, c1, if_true, Int.natCast_nonneg, e1, hne, if_false, hlt2, w]
      exact hn
theorem l01Remove_ev {l : List S84} (hr : RiseP l) (k : ByteArray) (hl : l.length ≤ 1000000) : Ev (fun q => spec_l01Remove.f q l k) (remL l k) := by
  unfold spec_l01Remove.f
  have h := l01Remove_loop hr k hl l.length 0 (by omega)
  have e : remAcc l k 0 = [] := by unfold remAcc; rw [if_pos (Nat.zero_le _), List.take_zero]
  rw [e] at h
  exact h
end Go.Proofs.YtblejbgkcgajgaaGreat.Q
end

section
namespace Go.Proofs.YtblejbgkcgajgaaGreat.Q
open Go.RowKit Go.Proofs.YtblejbgkcgajgaaGreatW.PrintWords Go.Proofs.YtblejbgkcgajgaaGreatW.PrintLast
set_option linter.unusedVariables false
set_option linter.unusedSimpArgs false
theorem l01Apply_loop (ed : List S68) (hed : ed.length ≤ 900000) : ∀ (d i : Nat) (l : List S84), i + d = ed.length → RiseP l → l.length + d ≤ 1000000 → Ev (fun k => spec_l01Apply.l0 k l ed (i : Int)) ((ed.drop i).foldl edit1 l) := by
  intro d
  induction d with
  | zero =>
    intro i l hi hr hl
    rw [List.drop_of_length_le (by omega)]
    refine Ev.at_ (c := 1) (fun k => ?_)
    simp only [spec_l01Apply.l0]
    rw [if_neg (by omega)]
    rfl
  | succ d ih =>
    intro i l hi hr hl
    have hil : i < ed.length := by omega
    have c1 : (i : Int) < (ed.length : Int) := by omega
    have e1 : rd_T68 ed (i : Int) = ed[i] := by simp [rd_T68, List.getD_eq_getElem?_getD, List.getElem?_eq_getElem hil]
    have hn := ih (i + 1) (edit1 l ed[i]) (by omega) (edit1_rise hr _) (by have := edit1_len l ed[i]; omega)
    rw [List.drop_eq_getElem_cons hil, List.foldl_cons]
    refine Ev.succ ?_
    simp only [spec_l01Apply.l0, c1, Int.natCast_nonneg, if_true, e1, wrap_i (show i < 4611686018427387904 by omega)]
    cases hg : ed[i].f2 with
    | true =>
      have he : edit1 l ed[i] = remL l ed[i].f0 := by unfold edit1; rw [if_pos hg]
      simp only [if_true]
      rw [he] at hn
      rw [he]
      exact Ev.bind (l01Remove_ev hr _ (by omega)) hn
    | false =>
      have he : edit1 l ed[i] = putL l ed[i].f0 ed[i].f1 := by unfold edit1; rw [if_neg (by simp [hg])]
      simp only [Bool.false_eq_true, if_false]
      rw [he] at hn
      rw [he]
      exact Ev.bind (l01Put_ev hr _ _ (by omega)) hn
theorem l01Apply_ev {l : List S84} (ed : List S68) (hr : RiseP l) (hl : l.length + ed.length ≤ 900000) : Ev (fun k => spec_l01Apply.f k l ed) (ed.foldl edit1 l) := by
  unfold spec_l01Apply.f
  simp only [Option.bind_some, List.length_nil, Nat.zero_add, List.nil_append, (show l.length < 5864062014805 by omega), if_true]
  have h := l01Apply_loop ed (by omega) ed.length 0 l (by omega) hr (by omega)
  rw [List.drop_zero] at h
  exact h
end Go.Proofs.YtblejbgkcgajgaaGreat.Q
end

section
namespace Go.Proofs.YtblejbgkcgajgaaGreat.Q
open Go.RowKit Go.Proofs.YtblejbgkcgajgaaGreatW.PrintWords Go.Proofs.YtblejbgkcgajgaaGreatW.PrintLast
set_option linter.unusedVariables false
set_option linter.unusedSimpArgs false
theorem rdEdit {l : List S68} {i : Nat} (h : i < l.length) : rd_T68 l (i : Int) = l[i] := by
  simp [rd_T68, List.getD_eq_getElem?_getD, List.getElem?_eq_getElem h]
theorem last_keep (key : ByteArray) : ∀ (l : List S68) (a : Option S68), (∀ x, x ∈ l → x.f0 ≠ key) → l.foldl (fun a e => if e.f0 = key then some e else a) a = a
  | [], a, _ => rfl
  | x :: l, a, h => by
    rw [List.foldl_cons, if_neg (h x List.mem_cons_self)]
    exact last_keep key l a (fun y hy => h y (List.mem_cons_of_mem _ hy))
theorem last_none {l : List S68} {key : ByteArray} (h : ∀ i (hi : i < l.length), l[i].f0 ≠ key) : lastE l key = none := by
  refine last_keep key l none (fun x hx => ?_)
  obtain ⟨i, hi, rfl⟩ := List.mem_iff_getElem.mp hx
  exact h i hi
theorem last_some {l : List S68} {key : ByteArray} (hr : l.Pairwise (fun a b => sblt a.f0 b.f0 = true)) {i : Nat} (hi : i < l.length) (hk : l[i].f0 = key) : lastE l key = some l[i] := by
  have e : l = l.take i ++ l[i] :: l.drop (i + 1) := by rw [← List.drop_eq_getElem_cons hi, List.take_append_drop]
  have hp := List.pairwise_iff_getElem.mp hr
  have h1 : lastE (l.take i ++ l[i] :: l.drop (i + 1)) key = some l[i] := by
    unfold lastE
    rw [List.foldl_append, List.foldl_cons, if_pos hk]
    refine last_keep key _ _ (fun x hx => ?_)
    obtain ⟨j, hj, rfl⟩ := List.mem_iff_getElem.mp hx
    rw [List.length_drop] at hj
    rw [List.getElem_drop, ← hk]
    exact fun h => sblt_ne (hp i (i + 1 + j) hi (by omega) (by omega)) h.symm
  rwa [← e] at h1
def foundE (l : List S68) (key : ByteArray) : ByteArray × Int × Bool × Bool := ((gotE l key).f0, (gotE l key).f1, (gotE l key).f2, hasE l key)
theorem find_loop (l : List S68) (key : ByteArray) (hr : l.Pairwise (fun a b => sblt a.f0 b.f0 = true)) (hl : l.length ≤ 1000000) : ∀ (d i : Nat), i + d = l.length → (∀ j (hj : j < l.length), j < i → l[j].f0 ≠ key) → Ev (fun k => spec_l02Find.l0 k l key (i : Int)) (foundE l key) := by
  intro d
  induction d with
  | zero =>
    intro i hi hn
    obtain rfl : i = l.length := by omega
    have c : ¬ ((l.length : Int) < (l.length : Int)) := by omega
    have h0 := last_none (fun j hj => hn j hj hj)
    refine Ev.at_ (c := 1) (fun k => ?_)
    simp only [spec_l02Find.l0, if_neg c, foundE, gotE, hasE, h0]
    rfl
  | succ d ih =>
    intro i hi hn
    have hil : i < l.length := by omega
    have c : (i : Int) < (l.length : Int) := by omega
    have i0 : (0 : Int) ≤ (i : Int) := Int.natCast_nonneg _
    by_cases hk : l[i].f0 = key
    · have h0 := last_some hr hil hk
      have hk2 : l[i].f0.toList = key.toList := by rw [hk]
      refine Ev.at_ (c := 1) (fun k => ?_)
      simp only [spec_l02Find.l0, if_pos c, if_pos i0, rdEdit hil, if_pos hk2, foundE, gotE, hasE, h0]
      rfl
    · have hk2 : ¬ l[i].f0.toList = key.toList := fun h => hk (toList_inj h)
      refine Ev.shift (c := 1) (d := 0) (fun k => ?_) (ih (i + 1) (by omega) (fun j hj h2 => ?_))
      · simp only [spec_l02Find.l0, if_pos c, if_pos i0, rdEdit hil, if_neg hk2, wrap_i (show i < 4611686018427387904 by omega), Nat.add_zero]
      · rcases Nat.lt_or_eq_of_le (Nat.le_of_lt_succ h2) with h3 | h3
        · exact hn j hj h3
        · subst h3; exact hk
theorem find_ev (l : List S68) (key : ByteArray) (hr : l.Pairwise (fun a b => sblt a.f0 b.f0 = true)) (hl : l.length ≤ 1000000) : Ev (fun k => spec_l02Find.f k l key) (foundE l key) :=
  find_loop l key hr hl l.length 0 (by omega) (fun j _ h => absurd h (Nat.not_lt_zero _))
theorem merge_loop (a : List S84) (L R : List S68) (ha : RiseP a) (hL : L.Pairwise (fun a b => sblt a.f0 b.f0 = true)) (hn : a.length + L.length + R.length ≤ 800000) : ∀ (d i : Nat), i + d = R.length →
    Ev (fun k => spec_l02Merge.l0 k a L R (mrg L (R.take i)).2 (mrg L (R.take i)).1 (i : Int)) ((mrg L R).1.foldl edit1 a, (mrg L R).2) := by
  intro d
  induction d with
  | zero =>
    intro i hi
    obtain rfl : i = R.length := by omega
    have c : ¬ ((R.length : Int) < (R.length : Int)) := by omega
    have hlen := (mrg_len L R R.length (Nat.le_refl _)).1
    rw [List.take_length] at hlen ⊢
    refine Ev.succ ?_
    simp only [spec_l02Merge.l0, if_neg c]
    exact Ev.bind (l01Apply_ev (mrg L R).1 ha (by omega)) (Ev.now _)
  | succ d ih =>
    intro i hi
    have hil : i < R.length := by omega
    have c : (i : Int) < (R.length : Int) := by omega
    have i0 : (0 : Int) ≤ (i : Int) := Int.natCast_nonneg _
    have hlen := mrg_len L R i (by omega)
    have w := wrap_i (show i < 4611686018427387904 by omega)
    have l1 : (mrg L (R.take i)).2.length < 8796093022208 := by omega
    have l2 : (mrg L (R.take i)).1.length < 4398046511104 := by omega
    have hf := find_ev L R[i].f0 hL (by omega)
    have hi2 := ih (i + 1) (by omega)
    rw [mrg_take L R i hil] at hi2
    unfold mstep at hi2
    refine Ev.succ ?_
    simp only [spec_l02Merge.l0, if_pos c, if_pos i0, rdEdit hil, if_pos l1, if_pos l2, w]
    refine Ev.bind hf ?_
    unfold foundE
    simp only
    cases hh : hasE L R[i].f0 with
    | true =>
      rw [if_pos hh] at hi2
      simp only [if_true]
      have hne : (!(gotE L R[i].f0).f0.toList == R[i].f0.toList || (!(gotE L R[i].f0).f1 == R[i].f1 || !(gotE L R[i].f0).f2 == R[i].f2)) = neE (gotE L R[i].f0) R[i] := rfl
      rw [hne]
      cases hd : neE (gotE L R[i].f0) R[i] with
      | true =>
        rw [if_pos hd] at hi2
        simp only [if_true]
        exact hi2
      | false =>
        rw [if_neg (by rw [hd]; simp)] at hi2
        simp only [Bool.false_eq_true, if_false]
        exact hi2
    | false =>
      rw [if_neg (by rw [hh]; simp)] at hi2
      simp only [Bool.false_eq_true, if_false]
      exact hi2
def told (m : List S84) (c : List ByteArray) : List S84 × List ByteArray × Int := if (c.length : Int) > 0 then ([], c, 11) else if (m.length : Int) > 12 then ([], [], 7) else (m, [], 0)
theorem told_f (m : List S84) (c : List ByteArray) : spec_l02Told.f m c = some (told m c) := by
  unfold spec_l02Told.f told
  split
  · rfl
  · split <;> rfl
def mergeM (b x y : List S84) : List S84 := (mrg (diffM b x) (diffM b y)).1.foldl edit1 x
def mergeC (b x y : List S84) : List ByteArray := (mrg (diffM b x) (diffM b y)).2
def keysS (l : List S84) : Prop := ∀ x, x ∈ l → x.f0.size ≤ 1000000
theorem diff_keys {a b : List S84} (ha : keysS a) (hb : keysS b) : ∀ e, e ∈ diffM a b → e.f0.size ≤ 1000000 := by
  intro e he
  rcases diffM_key a b e he with ⟨x, hx, hk⟩ | ⟨x, hx, hk⟩
  · rw [hk]; exact ha x hx
  · rw [hk]; exact hb x hx
theorem merge_spec {b x y : List S84} (hb : RiseP b) (hx : RiseP x) (hy : RiseP y) (hl : b.length + x.length + y.length ≤ 100000) : Ev (fun k => spec_l02Merge.f k b x y) (mergeM b x y, mergeC b x y) := by
  have e1 := l01Diff_ev b x (by omega) (by omega)
  have e2 := l01Diff_ev b y (by omega) (by omega)
  have d1 := diffM_len b x
  have d2 := diffM_len b y
  have h := merge_loop x (diffM b x) (diffM b y) hx (diffM_rise b x hb hx) (by omega) (diffM b y).length 0 (by omega)
  unfold spec_l02Merge.f
  exact Ev.bind e1 (Ev.bind e2 h)
theorem merge_impl {b x y : List S84} (hb : RiseP b) (hx : RiseP x) (hy : RiseP y) (hl : b.length + x.length + y.length ≤ 100000) (kb : keysS b) (kx : keysS x) (ky : keysS y) : Ev (fun k => impl_merge.f k b x y) (told (mergeM b x y) (mergeC b x y)) := by
  have e1 := diff_ev b x hb hx (by omega) (by omega)
  have e2 := diff_ev b y hb hy (by omega) (by omega)
  have d1 := diffM_len b x
  have d2 := diffM_len b y
  have hlen := mrg_len (diffM b x) (diffM b y) (diffM b y).length (Nat.le_refl _)
  rw [List.take_length] at hlen
  have hs : small (diffM b x) (diffM b y) = true := by
    unfold small
    rw [Bool.and_eq_true]
    refine ⟨List.all_eq_true.mpr (fun e he => decide_eq_true ?_), decide_eq_true (by omega)⟩
    rcases List.mem_append.mp he with he | he
    · exact diff_keys kb kx e he
    · exact diff_keys kb ky e he
  unfold impl_merge.f told
  refine Ev.bind e1 (Ev.bind e2 ?_)
  simp only [if_pos hs]
  by_cases hc : 0 < (mrg (diffM b x) (diffM b y)).2.length
  · have hc2 : ((mergeC b x y).length : Int) > 0 := by unfold mergeC; omega
    rw [if_pos hc2]
    simp only [if_pos hc]
    exact Ev.now _
  · have hc2 : ¬ ((mergeC b x y).length : Int) > 0 := by unfold mergeC; omega
    rw [if_neg hc2]
    simp only [if_neg hc]
    refine Ev.bind (edited_ev (mrg (diffM b x) (diffM b y)).1 hx (by omega)) ?_
    unfold impl_limited.f
    have e3 : (mrg (diffM b x) (diffM b y)).1.foldl edit1 x = mergeM b x y := rfl
    rw [e3]
    by_cases h13 : ((mergeM b x y).length : Int) > 12
    · simp only [if_pos h13, Option.bind_some]
      exact Ev.now _
    · simp only [if_neg h13, Option.bind_some]
      exact Ev.now _
theorem told_len (m : List S84) (c : List ByteArray) : (told m c).1.length ≤ 12 ∧ (told m c).2.1.length ≤ c.length := by
  unfold told
  split
  · simp
  · split
    · simp
    · simp; omega
theorem mergeC_len (b x y : List S84) : (mergeC b x y).length ≤ b.length + y.length := by
  have hlen := (mrg_len (diffM b x) (diffM b y) (diffM b y).length (Nat.le_refl _)).2
  rw [List.take_length] at hlen
  have d2 := diffM_len b y
  unfold mergeC
  omega
theorem mapB_keys {m : List S84} (h : mapB m = true) : keysS m := by
  intro x hx
  obtain ⟨i, hi, rfl⟩ := List.mem_iff_getElem.mp hx
  unfold mapB at h
  simp only [Bool.and_eq_true, decide_eq_true_eq, allR_iff] at h
  have h2 := h.2 i hi
  unfold entAt entB at h2
  rw [rdEntry hi] at h2
  simp only [Bool.and_eq_true] at h2
  have h3 := h2.1.1
  unfold nameB at h3
  simp only [Bool.and_eq_true, decide_eq_true_eq] at h3
  omega
end Go.Proofs.YtblejbgkcgajgaaGreat.Q
end

section
namespace Go.Proofs.YtblejbgkcgajgaaGreat.Q
open Go.RowKit Go.Proofs.YtblejbgkcgajgaaGreatW.PrintWords Go.Proofs.YtblejbgkcgajgaaGreatW.PrintLast
set_option linter.unusedVariables false
def cvEntry (x : S127) : S84 := ⟨x.f0, x.f1⟩
theorem toEntryS_ev (l : List S127) (h : l.length ≤ 1048576) : Ev (fun k => laws_toEntryS.f k l) (l.map cvEntry) := by
  refine Ev.congr (f := fun k => laws_toEntryS.l0 k l (List.replicate l.length z84) 0) (fun k => ?_) ?_
  · unfold laws_toEntryS.f
    rw [if_pos (by omega), if_pos (by omega)]
    rfl
  · exact ev_map_loop (L := laws_toEntryS.l0) (g := fun _ x => some (cvEntry x)) (z := z127) (fun _ _ _ _ => rfl) l (by omega) (fun x _ => Ev.now _) _ (by simp)
theorem eqEntry_refl (x : S84) : laws_eqEntry.f x.f0 x.f1 x.f0 x.f1 = some true := by
  unfold laws_eqEntry.f
  simp
theorem eqEntryS_ev (l : List S84) (h : l.length ≤ 1048576) : Ev (fun k => laws_eqEntryS.f k l l) true := by
  refine Ev.congr (f := fun k => laws_eqEntryS.l0 k l l 0) (fun k => ?_) ?_
  · unfold laws_eqEntryS.f
    rw [if_pos rfl]
  · exact ev_refl_loop (L := laws_eqEntryS.l0) (g := fun _ x y => laws_eqEntry.f x.f0 x.f1 y.f0 y.f1) (z := z84) (fun _ _ _ _ => rfl) l (by omega) (fun x _ => Ev.congr (fun _ => eqEntry_refl x) (Ev.now _))
theorem szEntryS_ev (l : List S127) (hl : l.length ≤ 9223372036854775807) (hg : ∀ x, x ∈ l → good127 x) (left : Int) (h0 : 0 ≤ left) (h1 : left ≤ 1048576) :
    ∃ r, Ev (fun k => laws_szEntryS.f k l left) r ∧ r ≤ left ∧ (0 ≤ r → l.length ≤ 1048576) := by
  have hw : wrap64 (left - (l.length : Int)) = left - (l.length : Int) := by unfold wrap64; omega
  by_cases hn : left - (l.length : Int) < 0
  · refine ⟨-1, Ev.congr (f := fun _ => some (-1)) (fun k => ?_) (Ev.now _), by omega, by omega⟩
    unfold laws_szEntryS.f
    rw [hw, if_pos hn]
  · obtain ⟨r, hr, hrl⟩ := ev_sz_loop (L := laws_szEntryS.l0) (g := fun _ x left => laws_szEntry.f x.f0 x.f1 left) (z := z127) (fun _ _ _ _ => rfl) l (by omega) (fun x hx left h0 h1 => by
      have hsz : x.f0.size ≤ 9223372036854775807 := (hg x hx).1
      have hw2 : wrap64 (left - (x.f0.size : Int)) = left - (x.f0.size : Int) := by unfold wrap64; omega
      by_cases h2 : left - (x.f0.size : Int) < 0
      · refine ⟨-1, Ev.congr (f := fun _ => some (-1)) (fun k => ?_) (Ev.now _), by omega⟩
        unfold laws_szEntry.f
        rw [hw2, if_pos h2]
      · refine ⟨left - (x.f0.size : Int), Ev.congr (f := fun _ => some (left - (x.f0.size : Int))) (fun k => ?_) (Ev.now _), by omega⟩
        unfold laws_szEntry.f
        rw [hw2, if_neg h2]) (left - (l.length : Int)) (by omega) (by omega)
    refine ⟨r, Ev.congr (f := fun k => laws_szEntryS.l0 k l (left - (l.length : Int)) 0) (fun k => ?_) hr, by omega, by omega⟩
    unfold laws_szEntryS.f
    rw [hw, if_neg hn]
end Go.Proofs.YtblejbgkcgajgaaGreat.Q
end

section
namespace Go.Proofs.YtblejbgkcgajgaaGreat.Q
open Go.RowKit Go.Proofs.YtblejbgkcgajgaaGreatW.PrintWords Go.Proofs.YtblejbgkcgajgaaGreatW.PrintLast
set_option linter.unusedVariables false
set_option linter.unusedSimpArgs false
theorem toIntS_ev (l : List Int) (h : l.length ≤ 1048576) : Ev (fun k => laws_toIntS.f k l) l := by
  refine Ev.congr (f := fun k => laws_toIntS.l0 k l (List.replicate l.length 0) 0) (fun k => ?_) ?_
  · unfold laws_toIntS.f
    rw [if_pos (by omega), if_pos (by omega)]
    rfl
  · have h2 := ev_map_loop (L := laws_toIntS.l0) (g := fun _ x => some x) (cv := fun x => x) (z := (0 : Int)) (fun _ _ _ _ => rfl) l (by omega) (fun x _ => Ev.now _) (List.replicate l.length 0) (by simp)
    simpa using h2
theorem eqIntS_ev (l : List Int) (hl : l.length ≤ 1048576) : Ev (fun k => laws_eqIntS.f k l l) true := by
  obtain ⟨b, hb, h⟩ := ev_same_loop (L := fun k i => laws_eqIntS.l0 k l l i) (xs := l) (ys := l) rfl (fun i h1 h2 e k => by
    have c1 : (i : Int) < (l.length : Int) := by omega
    simp only [laws_eqIntS.l0, c1, Int.natCast_nonneg, if_true, wrap_i (show i < 4611686018427387904 by omega)]) (fun i h1 h2 e k => absurd rfl e) (fun k => by
    simp only [laws_eqIntS.l0]
    rw [if_neg (by omega)])
  obtain rfl : b = true := h.mpr rfl
  exact Ev.congr (f := fun k => laws_eqIntS.l0 k l l 0) (fun k => by unfold laws_eqIntS.f; rw [if_pos rfl]) hb
theorem szIntS_ev (l : List Int) (hl : l.length ≤ 9223372036854775807) (left : Int) (h0 : 0 ≤ left) (h1 : left ≤ 1048576) :
    ∃ r, laws_szIntS.f l left = some r ∧ r ≤ left ∧ (0 ≤ r → l.length ≤ 1048576) := by
  have hw : wrap64 (left - (l.length : Int)) = left - (l.length : Int) := by unfold wrap64; omega
  unfold laws_szIntS.f
  rw [hw]
  by_cases hn : left - (l.length : Int) < 0
  · exact ⟨-1, by rw [if_pos hn], by omega, by omega⟩
  · exact ⟨left - (l.length : Int), by rw [if_neg hn], by omega, by omega⟩
def cvCommit (x : S75) : S64 := ⟨x.f0, x.f1.map cvEntry⟩
def fitC (x : S75) : Prop := x.f0.length ≤ 1048576 ∧ x.f1.length ≤ 1048576
theorem szCommit_ev (x : S75) (g : good75 x) (left : Int) (h0 : 0 ≤ left) (h1 : left ≤ 1048576) : ∃ r, Ev (fun k => laws_szCommit.f k x.f0 x.f1 left) r ∧ r ≤ left ∧ (0 ≤ r → fitC x) := by
  unfold laws_szCommit.f
  obtain ⟨r, hr, hrl, hrs⟩ := szIntS_ev x.f0 g.1.1 left h0 h1
  simp only [hr, Option.bind_some]
  by_cases hn : r < 0
  · exact ⟨-1, by simp only [hn, if_true]; exact Ev.now _, by omega, by omega⟩
  · obtain ⟨r', hr', hrl', hrs'⟩ := szEntryS_ev x.f1 g.2.1 g.2.2 r (by omega) (by omega)
    by_cases hn' : r' < 0
    · exact ⟨-1, by simp only [hn, if_false]; refine Ev.bind hr' ?_; simp only [hn', if_true]; exact Ev.now _, by omega, by omega⟩
    · exact ⟨r', by simp only [hn, if_false]; refine Ev.bind hr' ?_; simp only [hn', if_false]; exact Ev.now _, by omega, fun h => ⟨hrs (by omega), hrs' h⟩⟩
theorem ev_sz_loop2 {α : Type} {L : Nat → List α → Int → Int → Option Int} {g : Nat → α → Int → Option Int} {z : α} {P : α → Prop}
    (step : ∀ k xs left i, L (k + 1) xs left i = if i < (xs.length : Int) then (if 0 ≤ i then ((g k (xs.getD i.toNat z) left).bind fun t => (if t < 0 then some (-1) else L k xs t (wrap64 (i + 1)))) else none) else some left)
    (xs : List α) (hlen : xs.length ≤ 4611686018427387904) (hg : ∀ x, x ∈ xs → ∀ left : Int, 0 ≤ left → left ≤ 1048576 → ∃ r, Ev (fun k => g k x left) r ∧ r ≤ left ∧ (0 ≤ r → P x)) (left : Int) (h0 : 0 ≤ left) (h1 : left ≤ 1048576) :
    ∃ r, Ev (fun k => L k xs left 0) r ∧ r ≤ left ∧ (0 ≤ r → ∀ x, x ∈ xs → P x) := by
  have key : ∀ d (i : Nat) (left : Int), i + d = xs.length → 0 ≤ left → left ≤ 1048576 → ∃ r, Ev (fun k => L k xs left (i : Int)) r ∧ r ≤ left ∧ (0 ≤ r → ∀ x, x ∈ xs.drop i → P x) := by
    intro d
    induction d with
    | zero =>
      intro i left hi h0 h1
      refine ⟨left, Ev.step (f := fun _ => some left) (fun k => by rw [step, if_neg (by omega)]) (Ev.now left), by omega, fun _ x hx => ?_⟩
      rw [List.drop_eq_nil_of_le (by omega)] at hx
      cases hx
    | succ d ih =>
      intro i left hi h0 h1
      have hl : i < xs.length := by omega
      have hw : wrap64 ((i : Int) + 1) = ((i + 1 : Nat) : Int) := by unfold wrap64; omega
      have hx : xs.getD ((i : Int).toNat) z = xs[i] := by simp [List.getD_eq_getElem?_getD, List.getElem?_eq_getElem hl]
      obtain ⟨t, ht, htl, hP⟩ := hg _ (List.getElem_mem hl) left h0 h1
      have hstep : ∀ k, L (k + 1) xs left (i : Int) = (g k xs[i] left).bind fun t => if t < 0 then some (-1) else L k xs t ((i + 1 : Nat) : Int) := fun k => by rw [step, if_pos (by omega), if_pos (by omega), hx, hw]
      by_cases hn : t < 0
      · refine ⟨-1, Ev.step hstep (Ev.bind ht ?_), by omega, by omega⟩
        simp only [hn, if_true]
        exact Ev.now _
      · obtain ⟨r, hr, hrl, hrP⟩ := ih (i + 1) t (by omega) (by omega) (by omega)
        refine ⟨r, Ev.step hstep (Ev.bind ht ?_), by omega, fun h x hx => ?_⟩
        · simp only [hn, if_false]
          exact hr
        · rw [List.drop_eq_getElem_cons hl] at hx
          rcases List.mem_cons.mp hx with rfl | hx
          · exact hP (by omega)
          · exact hrP h x hx
  have h := key xs.length 0 left (by omega) h0 h1
  simpa using h
theorem szCommitS_ev (l : List S75) (hl : l.length ≤ 9223372036854775807) (hg : ∀ x, x ∈ l → good75 x) (left : Int) (h0 : 0 ≤ left) (h1 : left ≤ 1048576) :
    ∃ r, Ev (fun k => laws_szCommitS.f k l left) r ∧ r ≤ left ∧ (0 ≤ r → l.length ≤ 1048576 ∧ ∀ x, x ∈ l → fitC x) := by
  have hw : wrap64 (left - (l.length : Int)) = left - (l.length : Int) := by unfold wrap64; omega
  by_cases hn : left - (l.length : Int) < 0
  · refine ⟨-1, Ev.congr (f := fun _ => some (-1)) (fun k => ?_) (Ev.now _), by omega, by omega⟩
    unfold laws_szCommitS.f
    rw [hw, if_pos hn]
  · obtain ⟨r, hr, hrl, hrP⟩ := ev_sz_loop2 (L := laws_szCommitS.l0) (g := fun k x left => laws_szCommit.f k x.f0 x.f1 left) (z := z75) (P := fitC) (fun _ _ _ _ => rfl) l (by omega) (fun x hx left h0 h1 => szCommit_ev x (hg x hx) left h0 h1) (left - (l.length : Int)) (by omega) (by omega)
    refine ⟨r, Ev.congr (f := fun k => laws_szCommitS.l0 k l (left - (l.length : Int)) 0) (fun k => ?_) hr, by omega, fun h => ⟨by omega, hrP h⟩⟩
    unfold laws_szCommitS.f
    rw [hw, if_neg hn]
theorem toCommit_ev (x : S75) (h : fitC x) : Ev (fun k => laws_toCommit.f k x.f0 x.f1) (x.f0, x.f1.map cvEntry) := by
  unfold laws_toCommit.f
  exact Ev.bind (toIntS_ev _ h.1) (Ev.bind (toEntryS_ev _ h.2) (Ev.now _))
theorem toCommitS_ev (l : List S75) (h : l.length ≤ 1048576) (hf : ∀ x, x ∈ l → fitC x) : Ev (fun k => laws_toCommitS.f k l) (l.map cvCommit) := by
  refine Ev.congr (f := fun k => laws_toCommitS.l0 k l (List.replicate l.length z64) 0) (fun k => ?_) ?_
  · unfold laws_toCommitS.f
    rw [if_pos (by omega), if_pos (by omega)]
    rfl
  · exact ev_map_loop (L := laws_toCommitS.l0) (g := fun k x => (laws_toCommit.f k x.f0 x.f1).bind fun bt => some (⟨bt.1, bt.2⟩ : S64)) (cv := cvCommit) (z := z75) (fun k xs acc i => by
      simp only [laws_toCommitS.l0, Option.bind_assoc, Option.bind_some]
      rfl) l (by omega) (fun x hx => Ev.bind (toCommit_ev x (hf x hx)) (Ev.now _)) _ (by simp)
theorem eqCommitS_ev (l : List S64) (h : l.length ≤ 1048576) (hf : ∀ x, x ∈ l → x.f0.length ≤ 1048576 ∧ x.f1.length ≤ 1048576) : Ev (fun k => laws_eqCommitS.f k l l) true := by
  refine Ev.congr (f := fun k => laws_eqCommitS.l0 k l l 0) (fun k => ?_) ?_
  · unfold laws_eqCommitS.f
    rw [if_pos rfl]
  · exact ev_refl_loop (L := laws_eqCommitS.l0) (g := fun k x y => laws_eqCommit.f k x.f0 x.f1 y.f0 y.f1) (z := z64) (fun _ _ _ _ => rfl) l (by omega) (fun x hx => by
      unfold laws_eqCommit.f
      refine Ev.bind (eqIntS_ev _ (hf x hx).1) ?_
      simp only [if_true]
      refine Ev.bind (eqEntryS_ev _ (hf x hx).2) ?_
      simp only [if_true]
      exact Ev.now _)
theorem fit_cv {l : List S75} (hf : ∀ x, x ∈ l → fitC x) : ∀ x, x ∈ l.map cvCommit → x.f0.length ≤ 1048576 ∧ x.f1.length ≤ 1048576 := by
  intro x hx
  obtain ⟨y, hy, rfl⟩ := List.mem_map.mp hx
  exact ⟨(hf y hy).1, by simpa [cvCommit] using (hf y hy).2⟩
end Go.Proofs.YtblejbgkcgajgaaGreat.Q
end

section
namespace Go.Proofs.YtblejbgkcgajgaaGreat.Q
open Go.RowKit Go.Proofs.YtblejbgkcgajgaaGreatW.PrintWords Go.Proofs.YtblejbgkcgajgaaGreatW.PrintLast
set_option linter.unusedVariables false
set_option linter.unusedSimpArgs false
theorem markText_l0 : ∀ (d : Nat) (n : Int) (s : ByteArray), 0 ≤ n → n ≤ 9223372036854775807 → n < 10 ^ d → s.size + d ≤ 1000 → ∃ r, Ev (fun k => laws_markText.l0 k n s) r := by
  intro d
  induction d with
  | zero =>
    intro n s h0 hn9 h1 hs
    have hn : ¬ n > 0 := by simp at h1; omega
    have hz : 1 + s.size ≤ 9223372036854775807 := by omega
    exact ⟨_, Ev.at_ (c := 1) (fun k => by simp only [laws_markText.l0, hn, if_false, hz, if_true]; rfl)⟩
  | succ d ih =>
    intro n s h0 hn9 h1 hs
    by_cases hn : n > 0
    · have e1 : Int.tdiv n 10 = n / 10 := Int.tdiv_eq_ediv_of_nonneg h0
      have h2 : n / 10 < 10 ^ d := by
        rw [Int.pow_succ] at h1
        omega
      have hw : wrap64 (n / 10) = n / 10 := by unfold wrap64; omega
      have hz : (strOfNums [(wrap64 (48 + (Int.tmod n 10))) % 256]).size = 1 := rfl
      have hz2 : 1 + s.size ≤ 9223372036854775807 := by omega
      obtain ⟨r, hr⟩ := ih (n / 10) (strOfNums [(wrap64 (48 + (Int.tmod n 10))) % 256] ++ s) (by omega) (by omega) h2 (by rw [ByteArray.size_append, hz]; omega)
      refine ⟨r, Ev.step (fun k => ?_) hr⟩
      simp only [laws_markText.l0, hn, if_true, Option.bind_some, hz, hz2, e1, hw]
    · have hz : 1 + s.size ≤ 9223372036854775807 := by omega
      exact ⟨_, Ev.at_ (c := 1) (fun k => by simp only [laws_markText.l0, hn, if_false, hz, if_true]; rfl)⟩
theorem markTexts : ∃ mt : Int → ByteArray, ∀ n, 0 ≤ n → n ≤ 1000000000 → Ev (fun k => laws_markText.f k n) (mt n) := by
  have h : ∀ n : Int, ∃ s, 0 ≤ n → n ≤ 1000000000 → Ev (fun k => laws_markText.f k n) s := by
    intro n
    by_cases h0 : 0 ≤ n ∧ n ≤ 1000000000
    · by_cases h1 : n ≤ 0
      · exact ⟨_, fun _ _ => Ev.at_ (c := 0) (fun k => by unfold laws_markText.f; rw [if_pos h1])⟩
      · obtain ⟨s, hs⟩ := markText_l0 10 n (⟨#[]⟩ : ByteArray) h0.1 (by omega) (by omega) (by decide)
        exact ⟨s, fun _ _ => Ev.congr (fun k => by unfold laws_markText.f; rw [if_neg h1]) hs⟩
    · exact ⟨ByteArray.empty, fun a b => absurd ⟨a, b⟩ h0⟩
  exact ⟨fun n => Classical.choose (h n), fun n => Classical.choose_spec (h n)⟩
theorem ev_mark_loop {α : Type} {L : Nat → List α → Int → Int → Option (Int × List α)} {H : Nat → List α → Int → Int → Option Int} {mk : α → Int → α} {c : Int} (hc : 0 ≤ c)
    (stepL : ∀ (l : List α) (m : Int) (i : Nat) (hi : i < l.length), l.length ≤ 1048576 → 0 ≤ m → m ≤ 900000000 → ∀ r, Ev (fun k => L k (l.set i (mk l[i] m)) (m + c) ((i + 1 : Nat) : Int)) r → Ev (fun k => L k l m (i : Int)) r)
    (stepH : ∀ (l : List α) (m : Int) (i : Nat) (hi : i < l.length) (y : α), l[i] = mk y m → l.length ≤ 1048576 → 0 ≤ m → m ≤ 900000000 → ∀ r, Ev (fun k => H k l (m + c) ((i + 1 : Nat) : Int)) r → Ev (fun k => H k l m (i : Int)) r)
    (doneL : ∀ (l : List α) (m : Int) k, L (k + 1) l m (l.length : Int) = some (m, l)) (doneH : ∀ (l : List α) (m : Int) k, H (k + 1) l m (l.length : Int) = some m)
    (l : List α) (m : Int) (hl : l.length ≤ 1048576) (h0 : 0 ≤ m) (hm : m + c * l.length ≤ 900000000) :
    ∃ l', l'.length = l.length ∧ Ev (fun k => L k l m 0) (m + c * l.length, l') ∧ Ev (fun k => H k l' m 0) (m + c * l.length) := by
  have key : ∀ (d i : Nat) (l : List α) (m : Int), i + d = l.length → l.length ≤ 1048576 → 0 ≤ m → m + c * d ≤ 900000000 →
      ∃ l', l'.length = l.length ∧ l'.take i = l.take i ∧ Ev (fun k => L k l m (i : Int)) (m + c * d, l') ∧ Ev (fun k => H k l' m (i : Int)) (m + c * d) := by
    intro d
    induction d with
    | zero =>
      intro i l m hi hl h0 hm
      obtain rfl : i = l.length := by omega
      refine ⟨l, rfl, rfl, ?_, ?_⟩
      · simp only [Int.natCast_zero, Int.mul_zero, Int.add_zero]
        exact Ev.at_ (c := 1) (doneL l m)
      · simp only [Int.natCast_zero, Int.mul_zero, Int.add_zero]
        exact Ev.at_ (c := 1) (doneH l m)
    | succ d ih =>
      intro i l m hi hl h0 hm
      have hil : i < l.length := by omega
      have e : m + c + c * (d : Int) = m + c * ((d + 1 : Nat) : Int) := by
        rw [Int.natCast_add, Int.natCast_one, Int.mul_add, Int.mul_one]
        omega
      have hcd : 0 ≤ c * (d : Int) := Int.mul_nonneg hc (Int.natCast_nonneg d)
      obtain ⟨l', hl', ht, hL, hH⟩ := ih (i + 1) (l.set i (mk l[i] m)) (m + c) (by rw [List.length_set]; omega) (by rw [List.length_set]; omega) (by omega) (by omega)
      rw [List.length_set] at hl'
      rw [e] at hL hH
      have hg : l'[i]'(by omega) = mk l[i] m := by
        have h1 : (l'.take (i + 1))[i]'(by rw [List.length_take]; omega) = ((l.set i (mk l[i] m)).take (i + 1))[i]'(by rw [List.length_take, List.length_set]; omega) := by simp only [ht]
        simpa using h1
      refine ⟨l', hl', ?_, stepL l m i hil hl h0 (by omega) _ hL, stepH l' m i (by omega) l[i] hg (by omega) h0 (by omega) _ hH⟩
      have h2 := congrArg (List.take i) ht
      rw [List.take_take, List.take_take, Nat.min_eq_left (by omega)] at h2
      rw [h2, List.take_set_of_le (Nat.le_refl _)]
  obtain ⟨l', h1, _, h3, h4⟩ := key l.length 0 l m (by omega) hl h0 hm
  exact ⟨l', h1, h3, h4⟩
end Go.Proofs.YtblejbgkcgajgaaGreat.Q
end

section
namespace Go.Proofs.YtblejbgkcgajgaaGreat.Q
open Go.RowKit Go.Proofs.YtblejbgkcgajgaaGreatW.PrintWords Go.Proofs.YtblejbgkcgajgaaGreatW.PrintLast
set_option linter.unusedVariables false
set_option linter.unusedSimpArgs false
theorem markInt1_ev (l : List Int) (m : Int) (hl : l.length ≤ 1048576) (h0 : 0 ≤ m) (hm : m + 1 * l.length ≤ 900000000) :
    ∃ l', l'.length = l.length ∧ Ev (fun k => laws_markIntS.f k l m) (m + 1 * l.length, l') := by
  suffices h : ∃ l', l'.length = l.length ∧ Ev (fun k => laws_markIntS.f k l m) (m + 1 * l.length, l') ∧ Ev (fun k => some (m + 1 * ((l'.length : Int) - 0))) (m + 1 * l.length) by
    obtain ⟨l', h1, h2, _⟩ := h
    exact ⟨l', h1, h2⟩
  refine ev_mark_loop (L := laws_markIntS.l0) (H := fun _ (l : List Int) m i => some (m + 1 * ((l.length : Int) - i))) (mk := fun x m => m) (c := 1) (by omega) ?_ ?_ ?_ ?_ l m hl h0 hm
  · intro l m i hi hl h0 hm r hr
    have c1 : (i : Int) < (l.length : Int) := by omega
    have w := wrap_i (show i < 4611686018427387904 by omega)
    have w1 : wrap64 (m + 1) = m + 1 := by unfold wrap64; omega
    refine Ev.succ (g := fun k => laws_markIntS.l0 k l m (i : Int)) ?_
    simp only [laws_markIntS.l0, c1, if_true, Int.natCast_nonneg, Int.toNat_natCast, w, w1]
    exact hr
  · intro l m i hi y hy hl h0 hm r hr
    exact Ev.congr (fun k => by congr 1; omega) hr
  · intro l m k
    simp only [laws_markIntS.l0]
    rw [if_neg (by omega)]
  · intro l m k
    congr 1
    omega
end Go.Proofs.YtblejbgkcgajgaaGreat.Q
end

section
namespace Go.Proofs.YtblejbgkcgajgaaGreat.Q
open Go.RowKit Go.Proofs.YtblejbgkcgajgaaGreatW.PrintWords Go.Proofs.YtblejbgkcgajgaaGreatW.PrintLast
set_option linter.unusedVariables false
set_option linter.unusedSimpArgs false
theorem markEntryS_ev (l : List S84) (m : Int) (hl : l.length ≤ 1048576) (h0 : 0 ≤ m) (hm : m + 2 * l.length ≤ 900000000) :
    ∃ l', l'.length = l.length ∧ Ev (fun k => laws_markEntryS.f k l m) (m + 2 * l.length, l') ∧ Ev (fun k => laws_heldEntryS.f k l' m) (m + 2 * l.length) := by
  obtain ⟨mt, hmt⟩ := markTexts
  have rd0 : ∀ (l : List S84) (i : Nat) (h : i < l.length), rd_T84 l (i : Int) = l[i] := fun l i h => by simp [rd_T84, List.getD_eq_getElem?_getD, List.getElem?_eq_getElem h]
  have rd1 : ∀ (l : List S84) (i : Nat) (v : S84) (h : i < l.length), rd_T84 (l.set i v) (i : Int) = v := fun l i v h => by rw [rd0 _ _ (by rw [List.length_set]; exact h)]; simp
  refine ev_mark_loop (L := laws_markEntryS.l0) (H := laws_heldEntryS.l0) (mk := fun x m => ⟨mt (m), m + 1⟩) (c := 2) (by omega) ?_ ?_ ?_ ?_ l m hl h0 hm
  · intro l m i hi hl h0 hm r hr
    have c1 : (i : Int) < (l.length : Int) := by omega
    have w := wrap_i (show i < 4611686018427387904 by omega)
    have w1 : wrap64 (m + 1) = m + 1 := by unfold wrap64; omega
    have w2 : wrap64 (m + 1 + 1) = m + 2 := by unfold wrap64; omega
    refine Ev.succ (g := fun k => laws_markEntryS.l0 k l m (i : Int)) ?_
    simp only [laws_markEntryS.l0, c1, if_true, Int.natCast_nonneg, Option.bind_some, Int.toNat_natCast, rd0 l i hi, rd1 l i _ hi, List.set_set, w, w1, w2]
    refine Ev.bind (hmt (m) (by omega) (by omega)) ?_
    (try simp only [if_true, rd0 l i hi, rd1 l i _ hi, List.set_set, Option.bind_some, w1, w2, bne_self_eq_false, Bool.false_eq_true, if_false])
    exact hr
  · intro l m i hi y hy hl h0 hm r hr
    have c1 : (i : Int) < (l.length : Int) := by omega
    have w := wrap_i (show i < 4611686018427387904 by omega)
    have w1 : wrap64 (m + 1) = m + 1 := by unfold wrap64; omega
    have w2 : wrap64 (m + 1 + 1) = m + 2 := by unfold wrap64; omega
    refine Ev.succ (g := fun k => laws_heldEntryS.l0 k l m (i : Int)) ?_
    simp only [laws_heldEntryS.l0, c1, if_true, Int.natCast_nonneg, rd0 l i hi, hy, w, w1, w2, bne_self_eq_false, Bool.false_eq_true, if_false]
    refine Ev.bind (hmt (m) (by omega) (by omega)) ?_
    (try simp only [if_true, rd0 l i hi, rd1 l i _ hi, List.set_set, Option.bind_some, w1, w2, bne_self_eq_false, Bool.false_eq_true, if_false])
    exact hr
  · intro l m k
    simp only [laws_markEntryS.l0]
    rw [if_neg (by omega)]
  · intro l m k
    simp only [laws_heldEntryS.l0]
    rw [if_neg (by omega)]
end Go.Proofs.YtblejbgkcgajgaaGreat.Q
end

section
namespace Go.Proofs.YtblejbgkcgajgaaGreat.Q
open Go.RowKit Go.Proofs.YtblejbgkcgajgaaGreatW.PrintWords Go.Proofs.YtblejbgkcgajgaaGreatW.PrintLast
set_option linter.unusedVariables false
set_option linter.unusedSimpArgs false
def wC (x : S64) : Nat := x.f0.length + 2 * x.f1.length
def wCs (l : List S64) : Nat := (l.map wC).sum
theorem markCommitS_ev : ∀ (l : List S64) (m : Int), (∀ x, x ∈ l → x.f0.length ≤ 1048576 ∧ x.f1.length ≤ 1048576) → 0 ≤ m → m + wCs l ≤ 900000000 → Ev (fun k => laws_markCommitS.f k l m) (m + wCs l)
  | [], m, _, _, _ => by
    have e : m + (wCs [] : Int) = m := by simp [wCs]
    rw [e]
    exact Ev.at_ (c := 0) (fun k => rfl)
  | x :: l, m, hf, h0, hm => by
    have e : wCs (x :: l) = wC x + wCs l := by simp [wCs]
    have hx := hf x List.mem_cons_self
    rw [e] at hm ⊢
    unfold wC at hm
    obtain ⟨l1, _, h1⟩ := markInt1_ev x.f0 m hx.1 h0 (by omega)
    obtain ⟨l2, _, h2, _⟩ := markEntryS_ev x.f1 (m + 1 * x.f0.length) hx.2 (by omega) (by omega)
    have ih := markCommitS_ev l (m + 1 * x.f0.length + 2 * x.f1.length) (fun y hy => hf y (List.mem_cons_of_mem _ hy)) (by omega) (by omega)
    have e2 : m + 1 * (x.f0.length : Int) + 2 * (x.f1.length : Int) + (wCs l : Int) = m + ((wC x + wCs l : Nat) : Int) := by unfold wC; omega
    rw [e2] at ih
    exact Ev.bind h1 (Ev.bind h2 ih)
theorem Ev.uniq {α : Type} {g : Nat → Option α} {r s : α} (h : Ev g r) (k : Ev g s) : r = s := by
  obtain ⟨K, h⟩ := h
  obtain ⟨M, k⟩ := k
  have h1 := h (K + M) (by omega)
  rw [k (K + M) (by omega)] at h1
  exact (Option.some.inj h1).symm
theorem szEntryS_w (l : List S127) (hl : l.length ≤ 9223372036854775807) (hg : ∀ x, x ∈ l → good127 x) (left r : Int) (h0 : 0 ≤ left) (h1 : left ≤ 1048576) (h : Ev (fun k => laws_szEntryS.f k l left) r) (hr : 0 ≤ r) : r ≤ left - (l.length : Int) := by
  have hw : wrap64 (left - (l.length : Int)) = left - (l.length : Int) := by unfold wrap64; omega
  by_cases hn : left - (l.length : Int) < 0
  · have h2 : Ev (fun k => laws_szEntryS.f k l left) (-1) := Ev.congr (f := fun _ => some (-1)) (fun k => by unfold laws_szEntryS.f; rw [hw, if_pos hn]) (Ev.now _)
    have := Ev.uniq h h2
    omega
  · obtain ⟨r2, hr2, hrl⟩ := ev_sz_loop (L := laws_szEntryS.l0) (g := fun _ x left => laws_szEntry.f x.f0 x.f1 left) (z := z127) (fun _ _ _ _ => rfl) l (by omega) (fun x hx left h0 h1 => by
      have hsz : x.f0.size ≤ 9223372036854775807 := (hg x hx).1
      have hw2 : wrap64 (left - (x.f0.size : Int)) = left - (x.f0.size : Int) := by unfold wrap64; omega
      by_cases h2 : left - (x.f0.size : Int) < 0
      · refine ⟨-1, Ev.congr (f := fun _ => some (-1)) (fun k => ?_) (Ev.now _), by omega⟩
        unfold laws_szEntry.f
        rw [hw2, if_pos h2]
      · refine ⟨left - (x.f0.size : Int), Ev.congr (f := fun _ => some (left - (x.f0.size : Int))) (fun k => ?_) (Ev.now _), by omega⟩
        unfold laws_szEntry.f
        rw [hw2, if_neg h2]) (left - (l.length : Int)) (by omega) (by omega)
    have h2 : Ev (fun k => laws_szEntryS.f k l left) r2 := Ev.congr (f := fun k => laws_szEntryS.l0 k l (left - (l.length : Int)) 0) (fun k => by unfold laws_szEntryS.f; rw [hw, if_neg hn]) hr2
    have := Ev.uniq h h2
    omega
theorem szCommit_w (x : S75) (g : good75 x) (left r : Int) (h0 : 0 ≤ left) (h1 : left ≤ 1048576) (h : Ev (fun k => laws_szCommit.f k x.f0 x.f1 left) r) (hr : 0 ≤ r) : r ≤ left - (x.f0.length + x.f1.length : Nat) := by
  have hw : wrap64 (left - (x.f0.length : Int)) = left - (x.f0.length : Int) := by
    have := g.1.1
    unfold wrap64; omega
  by_cases hn : left - (x.f0.length : Int) < 0
  · have e : laws_szIntS.f x.f0 left = some (-1) := by unfold laws_szIntS.f; rw [hw, if_pos hn]
    have h2 : Ev (fun k => laws_szCommit.f k x.f0 x.f1 left) (-1) := by
      unfold laws_szCommit.f
      simp only [e, Option.bind_some, show ((-1 : Int) < 0) = True by simp, if_true]
      exact Ev.now _
    have := Ev.uniq h h2
    omega
  · have e : laws_szIntS.f x.f0 left = some (left - (x.f0.length : Int)) := by unfold laws_szIntS.f; rw [hw, if_neg hn]
    obtain ⟨r2, hr2, hrl2, _⟩ := szEntryS_ev x.f1 g.2.1 g.2.2 (left - (x.f0.length : Int)) (by omega) (by omega)
    have h2 : Ev (fun k => laws_szCommit.f k x.f0 x.f1 left) (if r2 < 0 then -1 else r2) := by
      unfold laws_szCommit.f
      simp only [e, Option.bind_some, hn, if_false]
      refine Ev.bind hr2 ?_
      by_cases h3 : r2 < 0
      · simp only [h3, if_true]; exact Ev.now _
      · simp only [h3, if_false]; exact Ev.now _
    have h3 := Ev.uniq h h2
    by_cases h4 : r2 < 0
    · rw [if_pos h4] at h3
      omega
    · rw [if_neg h4] at h3
      have := szEntryS_w x.f1 g.2.1 g.2.2 _ r2 (by omega) (by omega) hr2 (by omega)
      omega
def lC (x : S75) : Nat := x.f0.length + x.f1.length
theorem szCommitS_l0 (xs : List S75) (hlen : xs.length ≤ 4611686018427387904) (hg : ∀ x, x ∈ xs → good75 x) : ∀ (d i : Nat) (left r : Int), i + d = xs.length → 0 ≤ left → left ≤ 1048576 → Ev (fun k => laws_szCommitS.l0 k xs left (i : Int)) r → 0 ≤ r → r ≤ left - (((xs.drop i).map lC).sum : Nat) := by
  intro d
  induction d with
  | zero =>
    intro i left r hi h0 h1 h hr
    have h2 : Ev (fun k => laws_szCommitS.l0 k xs left (i : Int)) left := Ev.at_ (c := 1) (fun k => by simp only [laws_szCommitS.l0]; rw [if_neg (by omega)])
    have := Ev.uniq h h2
    rw [List.drop_eq_nil_of_le (by omega)]
    simp
    omega
  | succ d ih =>
    intro i left r hi h0 h1 h hr
    have hl : i < xs.length := by omega
    have hw : wrap64 ((i : Int) + 1) = ((i + 1 : Nat) : Int) := by unfold wrap64; omega
    have c1 : (i : Int) < (xs.length : Int) := by omega
    have hx : rd_T75 xs (i : Int) = xs[i] := by simp [rd_T75, List.getD_eq_getElem?_getD, List.getElem?_eq_getElem hl]
    obtain ⟨t, ht, htl, _⟩ := szCommit_ev xs[i] (hg _ (List.getElem_mem hl)) left h0 h1
    have step : ∀ q, Ev (fun k => if t < 0 then some (-1) else laws_szCommitS.l0 k xs t ((i + 1 : Nat) : Int)) q → Ev (fun k => laws_szCommitS.l0 k xs left (i : Int)) q := by
      intro q hq
      refine Ev.succ (g := fun k => laws_szCommitS.l0 k xs left (i : Int)) ?_
      simp only [laws_szCommitS.l0, c1, Int.natCast_nonneg, if_true, hx, hw]
      exact Ev.bind ht hq
    by_cases hn : t < 0
    · have h2 := step (-1) (by simp only [hn, if_true]; exact Ev.now _)
      have := Ev.uniq h h2
      omega
    · have h3 := szCommit_w xs[i] (hg _ (List.getElem_mem hl)) left t h0 h1 ht (by omega)
      obtain ⟨q, hq⟩ : ∃ q, Ev (fun k => laws_szCommitS.l0 k xs t ((i + 1 : Nat) : Int)) q := by
        obtain ⟨K, hK⟩ := h
        obtain ⟨M, hM⟩ := ht
        refine ⟨r, K + M, fun n hn2 => ?_⟩
        have h5 := hK (n + 1) (by omega)
        have h6 : laws_szCommit.f n xs[i].f0 xs[i].f1 left = some t := hM n (by omega)
        simp only [laws_szCommitS.l0, c1, Int.natCast_nonneg, if_true, hx, hw] at h5
        rw [h6] at h5
        simp only [Option.bind_some, hn, if_false] at h5
        exact h5
      have h2 := step q (by simp only [hn, if_false]; exact hq)
      obtain rfl := Ev.uniq h h2
      have h4 := ih (i + 1) t r (by omega) (by omega) (by omega) hq hr
      rw [List.drop_eq_getElem_cons hl, List.map_cons, List.sum_cons]
      unfold lC at h4 ⊢
      omega
theorem szCommitS_w (l : List S75) (hl : l.length ≤ 9223372036854775807) (hg : ∀ x, x ∈ l → good75 x) (left r : Int) (h0 : 0 ≤ left) (h1 : left ≤ 1048576) (h : Ev (fun k => laws_szCommitS.f k l left) r) (hr : 0 ≤ r) : (l.map lC).sum ≤ 1048576 := by
  have hw : wrap64 (left - (l.length : Int)) = left - (l.length : Int) := by unfold wrap64; omega
  by_cases hn : left - (l.length : Int) < 0
  · have h2 : Ev (fun k => laws_szCommitS.f k l left) (-1) := Ev.congr (f := fun _ => some (-1)) (fun k => by unfold laws_szCommitS.f; rw [hw, if_pos hn]) (Ev.now _)
    have := Ev.uniq h h2
    omega
  · have h2 : Ev (fun k => laws_szCommitS.l0 k l (left - (l.length : Int)) ((0 : Nat) : Int)) r := Ev.congr (f := fun k => laws_szCommitS.f k l left) (fun k => by unfold laws_szCommitS.f; rw [hw, if_neg hn]; rfl) h
    have h3 := szCommitS_l0 l (by omega) hg l.length 0 (left - (l.length : Int)) r (by omega) (by omega) (by omega) h2 hr
    rw [List.drop_zero] at h3
    omega
theorem wCs_le (l : List S75) : wCs (l.map cvCommit) ≤ 2 * (l.map lC).sum := by
  unfold wCs
  induction l with
  | nil => simp
  | cons x l ih =>
    have e : wC (cvCommit x) ≤ 2 * lC x := by
      unfold wC lC cvCommit
      simp only [List.length_map]
      omega
    simp only [List.map_cons, List.sum_cons] at ih ⊢
    omega
end Go.Proofs.YtblejbgkcgajgaaGreat.Q
end

section
namespace Go.Proofs.YtblejbgkcgajgaaGreat.Q
open Go.RowKit Go.Proofs.YtblejbgkcgajgaaGreatW.PrintWords Go.Proofs.YtblejbgkcgajgaaGreatW.PrintLast
set_option linter.unusedVariables false
set_option linter.unusedSimpArgs false
theorem rdStr {l : List ByteArray} {i : Nat} (h : i < l.length) : rdOf ByteArray.empty l (i : Int) = l[i] := by
  simp [rdOf, List.getD_eq_getElem?_getD, List.getElem?_eq_getElem h]
theorem eqStringS_ev (l : List ByteArray) (hl : l.length ≤ 1048576) : Ev (fun k => laws_eqStringS.f k l l) true := by
  obtain ⟨b, hb, h⟩ := ev_same_loop (L := fun k i => laws_eqStringS.l0 k l l i) (xs := l) (ys := l) rfl (fun i h1 h2 e k => by
    have c1 : (i : Int) < (l.length : Int) := by omega
    simp only [laws_eqStringS.l0, rdStr h1, c1, Int.natCast_nonneg, if_true, wrap_i (show i < 4611686018427387904 by omega)]) (fun i h1 h2 e k => absurd rfl e) (fun k => by
    simp only [laws_eqStringS.l0]
    rw [if_neg (by omega)])
  obtain rfl : b = true := h.mpr rfl
  exact Ev.congr (f := fun k => laws_eqStringS.l0 k l l 0) (fun k => by unfold laws_eqStringS.f; rw [if_pos rfl]) hb
end Go.Proofs.YtblejbgkcgajgaaGreat.Q
end

section
namespace Go.Proofs.YtblejbgkcgajgaaGreat.Q
open Go.RowKit Go.Proofs.YtblejbgkcgajgaaGreatW.PrintWords Go.Proofs.YtblejbgkcgajgaaGreatW.PrintLast
set_option linter.unusedVariables false
set_option linter.unusedSimpArgs false
theorem markStringS_ev (l : List ByteArray) (m : Int) (hl : l.length ≤ 1048576) (h0 : 0 ≤ m) (hm : m + 1 * l.length ≤ 900000000) :
    ∃ l', l'.length = l.length ∧ Ev (fun k => laws_markStringS.f k l m) (m + 1 * l.length, l') ∧ Ev (fun k => laws_heldStringS.f k l' m) (m + 1 * l.length) := by
  obtain ⟨mt, hmt⟩ := markTexts
  refine ev_mark_loop (L := laws_markStringS.l0) (H := laws_heldStringS.l0) (mk := fun _ m => mt m) (c := 1) (by omega) ?_ ?_ ?_ ?_ l m hl h0 hm
  · intro l m i hi hl h0 hm r hr
    have c1 : (i : Int) < (l.length : Int) := by omega
    have w := wrap_i (show i < 4611686018427387904 by omega)
    have w1 : wrap64 (m + 1) = m + 1 := by unfold wrap64; omega
    refine Ev.succ (g := fun k => laws_markStringS.l0 k l m (i : Int)) ?_
    simp only [laws_markStringS.l0, c1, if_true, Int.natCast_nonneg, Int.toNat_natCast, w, w1]
    refine Ev.bind (hmt m (by omega) (by omega)) ?_
    exact hr
  · intro l m i hi y hy hl h0 hm r hr
    have c1 : (i : Int) < (l.length : Int) := by omega
    have w := wrap_i (show i < 4611686018427387904 by omega)
    have w1 : wrap64 (m + 1) = m + 1 := by unfold wrap64; omega
    refine Ev.succ (g := fun k => laws_heldStringS.l0 k l m (i : Int)) ?_
    simp only [laws_heldStringS.l0, c1, if_true, Int.natCast_nonneg, rdStr hi, hy, w, w1]
    refine Ev.bind (hmt m (by omega) (by omega)) ?_
    simp only [if_true]
    exact hr
  · intro l m k
    simp only [laws_markStringS.l0]
    rw [if_neg (by omega)]
  · intro l m k
    simp only [laws_heldStringS.l0]
    rw [if_neg (by omega)]
end Go.Proofs.YtblejbgkcgajgaaGreat.Q
end

section
namespace Go.Proofs.YtblejbgkcgajgaaGreat.Pure
open Go.RowKit Go.Proofs.YtblejbgkcgajgaaGreat.Q Go.Proofs.YtblejbgkcgajgaaGreatW.PrintWords Go.Proofs.YtblejbgkcgajgaaGreatW.PrintLast
set_option linter.unusedVariables false
set_option linter.unusedSimpArgs false
theorem map_of_store {st : List S64} (h : storeB st = true) {i : Nat} (hi : i < st.length) : mapB st[i].f1 = true := by
  have h3 := (storeB_at h).2.2 i hi
  have e : st.getD i z64 = st[i] := by rw [List.getD_eq_getElem?_getD, List.getElem?_eq_getElem hi]; rfl
  rw [e] at h3
  unfold commitB at h3
  rw [Bool.and_eq_true] at h3
  exact h3.1
theorem at_one {i : Nat} (h : 1 ≤ i) (hi : i ≤ 1048576) : wrap64 ((i : Int) - 1) = ((i - 1 : Nat) : Int) := by unfold wrap64; omega
theorem mc_both (st : List S64) (a b : Int) (hl : st.length ≤ 1048576) (hf : ∀ x, x ∈ st → x.f1.length ≤ 1048576) :
    ∃ m s e, Ev (fun k => spec_MergeCommits.f k st a b) (m, s, e) ∧ Ev (fun k => impl_MergeCommits.f k st a b) (m, s, e) ∧ m.length ≤ 1048576 ∧ s.length ≤ 1048576 := by
  have hI := idCode_ev st [a, b] hl hf
  have hS := l03Ask_ev st [a, b] (by simp)
  unfold spec_MergeCommits.f impl_MergeCommits.f
  by_cases h1 : (st.length : Int) > 4096
  · rw [askC_long h1] at hI
    exact ⟨[], [], 2, by simp only [h1, if_true]; exact Ev.now _, Ev.bind hI (Ev.now _), by simp, by simp⟩
  simp only [h1, if_false]
  by_cases h0 : askC st [a, b] = 0
  · obtain ⟨hs, hx⟩ := askC_zero h0
    have ha := hx a (by simp)
    have hb := hx b (by simp)
    obtain ⟨i, rfl⟩ : ∃ i : Nat, a = (i : Int) := ⟨a.toNat, by omega⟩
    obtain ⟨j, rfl⟩ : ∃ j : Nat, b = (j : Int) := ⟨b.toNat, by omega⟩
    rw [h0] at hI hS
    obtain ⟨r, hr1, hr2, e1, e2⟩ := baseOf_both st hs i j (by omega) (by omega) (by omega) (by omega)
    have wr := at_one hr1 (by omega)
    have wi := at_one (show 1 ≤ i by omega) (by omega)
    have wj := at_one (show 1 ≤ j by omega) (by omega)
    have hrl : r - 1 < st.length := by omega
    have hil : i - 1 < st.length := by omega
    have hjl : j - 1 < st.length := by omega
    have cr : ((r - 1 : Nat) : Int) < (st.length : Int) := by omega
    have ci : ((i - 1 : Nat) : Int) < (st.length : Int) := by omega
    have cj : ((j - 1 : Nat) : Int) < (st.length : Int) := by omega
    have rdC : ∀ {l : List S64} {i : Nat} (h : i < l.length), rd_T64 l (i : Int) = l[i] := fun {l i} h => by simp [rd_T64, List.getD_eq_getElem?_getD, List.getElem?_eq_getElem h]
    have q1 := map_of_store hs hrl
    have q2 := map_of_store hs hil
    have q3 := map_of_store hs hjl
    have l1 := mapB_len q1
    have l2 := mapB_len q2
    have l3 := mapB_len q3
    have g1 := merge_spec (mapB_rise q1) (mapB_rise q2) (mapB_rise q3) (by omega)
    have g2 := merge_impl (mapB_rise q1) (mapB_rise q2) (mapB_rise q3) (by omega) (mapB_keys q1) (mapB_keys q2) (mapB_keys q3)
    have t1 := told_len (mergeM st[r - 1].f1 st[i - 1].f1 st[j - 1].f1) (mergeC st[r - 1].f1 st[i - 1].f1 st[j - 1].f1)
    have t2 := mergeC_len st[r - 1].f1 st[i - 1].f1 st[j - 1].f1
    refine ⟨(told (mergeM st[r - 1].f1 st[i - 1].f1 st[j - 1].f1) (mergeC st[r - 1].f1 st[i - 1].f1 st[j - 1].f1)).1, (told (mergeM st[r - 1].f1 st[i - 1].f1 st[j - 1].f1) (mergeC st[r - 1].f1 st[i - 1].f1 st[j - 1].f1)).2.1, (told (mergeM st[r - 1].f1 st[i - 1].f1 st[j - 1].f1) (mergeC st[r - 1].f1 st[i - 1].f1 st[j - 1].f1)).2.2, Ev.bind hS ?_, Ev.bind hI ?_, by omega, by omega⟩
    · simp only [if_true]
      refine Ev.bind e1 ?_
      simp only [wr, wi, wj, Int.natCast_nonneg, cr, ci, cj, if_true, rdC hrl, rdC hil, rdC hjl]
      refine Ev.bind g1 ?_
      simp only [told_f, Option.bind_some]
      exact Ev.now _
    · simp only [if_true]
      refine Ev.bind (a := told (mergeM st[r - 1].f1 st[i - 1].f1 st[j - 1].f1) (mergeC st[r - 1].f1 st[i - 1].f1 st[j - 1].f1)) ?_ (Ev.now _)
      unfold impl_mergeCommits.f
      refine Ev.bind e2 ?_
      simp only [wr, wi, wj, Int.natCast_nonneg, cr, ci, cj, if_true, rdC hrl, rdC hil, rdC hjl]
      exact Ev.bind g2 (Ev.now _)
  · exact ⟨[], [], askC st [a, b], Ev.bind hS (by simp only [h0, if_false]; exact Ev.now _), Ev.bind hI (by simp only [h0, if_false]; exact Ev.now _), by simp, by simp⟩
theorem FnExactMergeCommits : laws_FnExactMergeCommits.Pure := by
  intro l0 a1 a2 w0 w1 w2
  refine Ev.rounds ?_
  unfold laws_FnExactMergeCommits.f
  obtain ⟨r, hr, hrl, hrs⟩ := szCommitS_ev l0 w0.1 w0.2 1048576 (by omega) (by omega)
  have hsum := fun h => szCommitS_w l0 w0.1 w0.2 1048576 r (by omega) (by omega) hr h
  refine Ev.bind hr ?_
  by_cases hn : r < 0
  · simp only [hn, if_true]
    exact Ev.now _
  simp only [hn, if_false]
  obtain ⟨hl, hf⟩ := hrs (by omega)
  have ht := toCommitS_ev l0 hl hf
  have hf2 := fit_cv hf
  have hl2 : (l0.map cvCommit).length ≤ 1048576 := by simpa using hl
  obtain ⟨res, str, code, hs, hi, hres, hstr⟩ := mc_both (l0.map cvCommit) a1 a2 hl2 (fun x hx => (hf2 x hx).2)
  have he := eqEntryS_ev res hres
  have hes := eqStringS_ev str hstr
  refine Ev.bind ht (Ev.bind hs (Ev.bind ht (Ev.bind hi (Ev.bind he ?_))))
  simp only [if_true]
  refine Ev.bind hes ?_
  simp only [if_true, bne_self_eq_false]
  refine Ev.succ ?_
  simp only [laws_FnExactMergeCommits.j0, Bool.false_eq_true, if_false]
  refine Ev.bind ht (Ev.bind (eqCommitS_ev _ hl2 hf2) ?_)
  simp only [if_true]
  have hw := wCs_le l0
  have hsm := hsum (by omega)
  refine Ev.bind (markCommitS_ev (l0.map cvCommit) 1 hf2 (by omega) (by omega)) ?_
  have n1 : ¬ (1 + (wCs (l0.map cvCommit) : Int) < 0) := by omega
  simp only [n1, if_false]
  refine Ev.bind he ?_
  simp only [if_true]
  refine Ev.bind hes ?_
  simp only [if_true, bne_self_eq_false]
  refine Ev.succ ?_
  simp only [laws_FnExactMergeCommits.j1, Bool.false_eq_true, if_false]
  obtain ⟨lr, _, hmR, hhR⟩ := markEntryS_ev res 1 hres (by omega) (by omega)
  obtain ⟨ls, _, hmS, hhS⟩ := markStringS_ev str (1 + 2 * (res.length : Int)) hstr (by omega) (by omega)
  have n2 : ¬ (1 + 2 * (res.length : Int) < 0) := by omega
  have n3 : ¬ (1 + 2 * (res.length : Int) + 1 * (str.length : Int) < 0) := by omega
  refine Ev.bind hmR (Ev.bind hmS (Ev.bind hhR ?_))
  simp only [n2, if_false]
  refine Ev.bind hhS ?_
  simp only [n3, if_false, if_true]
  refine Ev.bind ht (Ev.bind hi (Ev.bind he ?_))
  simp only [if_true]
  refine Ev.bind hes ?_
  simp only [if_true, bne_self_eq_false]
  refine Ev.succ ?_
  simp only [laws_FnExactMergeCommits.j2, Bool.false_eq_true, if_false]
  refine Ev.bind hhR ?_
  simp only [n2, if_false]
  refine Ev.bind hhS ?_
  simp only [n3, if_false, if_true]
  exact Ev.now _
end Go.Proofs.YtblejbgkcgajgaaGreat.Pure
end
