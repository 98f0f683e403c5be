/- Parts of the proof of the law FnExactBaseOf, joined into one text. -/
import Derived.Test.YtekoaaiemmblgaaMFnExactBaseOf3
section
namespace Go.Proofs.Ytekoaaiemmblgaa.Q
open Go.RowKit Go.Proofs.YtekoaaiemmblgaaW.PrintWords Go.Proofs.YtekoaaiemmblgaaW.PrintLast
set_option linter.unusedVariables false
set_option linter.unusedSimpArgs false
def markP (out : List Bool) (ps : List Int) : List Bool := ps.foldl (fun o p => o.set p.toNat true) out
def reachG (st : List S78) : Nat → List Bool → List Bool
  | 0, out => out
  | i + 1, out => reachG st i (if out.getD (i + 1) false = true then markP out (st.getD i z78).f0 else out)
theorem markP_len (ps : List Int) : ∀ out : List Bool, (markP out ps).length = out.length := by
  induction ps with
  | nil => intro out; rfl
  | cons p ps ih =>
    intro out
    show (markP (out.set p.toNat true) ps).length = _
    rw [ih, List.length_set]
theorem reachG_len (st : List S78) : ∀ (i : Nat) (out : List Bool), (reachG st i out).length = out.length
  | 0, _ => rfl
  | i + 1, out => by
    rw [reachG, reachG_len st i]
    split
    · rw [markP_len]
    · rfl
theorem storeB_at {st : List S78} (h : storeB st = true) : st.length ≤ 60 ∧ 1 ≤ st.length ∧ ∀ i, i < st.length → commitB i (st.getD i z78).f0 (st.getD i z78).f1 = true := by
  unfold storeB inB at h
  rw [Bool.and_eq_true, allR_iff] at h
  simp only [Bool.and_eq_true, decide_eq_true_eq] at h
  exact ⟨by omega, by omega, fun i hi => h.2 i hi⟩
theorem commitB_par {n : Nat} {ps : List Int} {m : List S87} (h : commitB n ps m = true) : (∀ p, p ∈ ps → 1 ≤ p ∧ p ≤ (n : Int)) ∧ (n ≠ 0 → ps ≠ []) ∧ ps.length ≤ 2 := by
  unfold commitB at h
  rw [Bool.and_eq_true] at h
  obtain ⟨_, h⟩ := h
  match ps, h with
  | [], h =>
    refine ⟨fun p hp => by simp at hp, fun hn => ?_, by simp⟩
    simp only [beq_iff_eq] at h
    exact absurd h hn
  | [a], h =>
    simp only [Bool.and_eq_true, inB, decide_eq_true_eq] at h
    refine ⟨fun p hp => ?_, fun _ => by simp, by simp⟩
    obtain rfl : p = a := by simpa using hp
    exact h.2
  | [a, b], h =>
    simp only [Bool.and_eq_true, inB, decide_eq_true_eq] at h
    refine ⟨fun p hp => ?_, fun _ => by simp, by simp⟩
    rcases List.mem_cons.mp hp with rfl | hp
    · exact h.2.1
    · obtain rfl : p = b := by simpa using hp
      exact h.2.2.1
  | _ :: _ :: _ :: _, h => simp at h
theorem rdB {l : List Bool} (i : Nat) : rdOf false l (i : Int) = l.getD i false := by simp [rdOf]
theorem rdC_ (st : List S78) (i : Nat) : rd_T78 st (i : Int) = st.getD i z78 := by simp [rd_T78]
theorem anc_l1 (st : List S78) (i : Nat) (hi : i < 4611686018427387904) (ps : List Int) (hps : ps.length ≤ 1048576) : ∀ (d j : Nat) (out : List Bool) (r : List Bool), j + d = ps.length → (∀ p, p ∈ ps → 0 ≤ p ∧ p < (out.length : Int)) → Ev (fun k => impl_ancestors.l0 k st (markP out (ps.drop j)) (i : Int)) r →
    Ev (fun k => impl_ancestors.l1 k st out ((i + 1 : Nat) : Int) ps (ps.length : Int) (j : Int)) r := by
  have hw1 : wrap64 (((i + 1 : Nat) : Int) - 1) = (i : Int) := by unfold wrap64; omega
  intro d
  induction d with
  | zero =>
    intro j out r hj hp h
    obtain rfl : j = ps.length := by omega
    rw [List.drop_length] at h
    refine Ev.succ (g := fun k => impl_ancestors.l1 k st out ((i + 1 : Nat) : Int) ps (ps.length : Int) (ps.length : Int)) ?_
    have c1 : ¬ ((ps.length : Int) < (ps.length : Int)) := by omega
    simp only [impl_ancestors.l1, c1, if_false, hw1]
    exact h
  | succ d ih =>
    intro j out r hj hp h
    have hl : j < ps.length := by omega
    have c1 : (j : Int) < (ps.length : Int) := by omega
    have er : rd ps (j : Int) = ps[j] := by simp [rd, List.getD_eq_getElem?_getD, List.getElem?_eq_getElem hl]
    have hpj := hp ps[j] (List.getElem_mem hl)
    refine Ev.succ (g := fun k => impl_ancestors.l1 k st out ((i + 1 : Nat) : Int) ps (ps.length : Int) (j : Int)) ?_
    simp only [impl_ancestors.l1, c1, if_true, Int.natCast_nonneg, er, hpj.1, hpj.2, wrap_i (show j < 4611686018427387904 by omega)]
    refine ih (j + 1) _ r (by omega) (fun p hp2 => by rw [List.length_set]; exact hp p hp2) ?_
    rw [List.drop_eq_getElem_cons hl] at h
    exact h
theorem anc_l0 (st : List S78) (hs : storeB st = true) : ∀ (i : Nat) (out : List Bool), i ≤ st.length → out.length = st.length + 1 → Ev (fun k => impl_ancestors.l0 k st out (i : Int)) (reachG st i out)
  | 0, out, _, _ => Ev.at_ (c := 1) (fun k => by
    have c1 : ¬ (((0 : Nat) : Int) > 0) := by omega
    simp only [impl_ancestors.l0, c1, if_false]
    rfl)
  | i + 1, out, hi, ho => by
    obtain ⟨h60, _, hc⟩ := storeB_at hs
    have c1 : ((i + 1 : Nat) : Int) > 0 := by omega
    have c2 : (0 : Int) ≤ ((i + 1 : Nat) : Int) := by omega
    have c3 : ((i + 1 : Nat) : Int) < (out.length : Int) := by omega
    have hw1 : wrap64 (((i + 1 : Nat) : Int) - 1) = (i : Int) := by unfold wrap64; omega
    have c4 : (i : Int) < (st.length : Int) := by omega
    obtain ⟨hpar, _, h2⟩ := commitB_par (hc i (by omega))
    refine Ev.succ (g := fun k => impl_ancestors.l0 k st out ((i + 1 : Nat) : Int)) ?_
    simp only [impl_ancestors.l0, c1, c2, c3, if_true, hw1, Int.natCast_nonneg, c4, rdB, rdC_]
    rw [reachG]
    by_cases hb : out.getD (i + 1) false = true
    · simp only [hb, if_true]
      exact anc_l1 st i (by omega) _ (by omega) _ 0 out _ (Nat.zero_add _) (fun p hp => by have := hpar p hp; omega) (anc_l0 st hs i _ (by omega) (by rw [markP_len]; exact ho))
    · simp only [hb, if_false]
      exact anc_l0 st hs i out (by omega) ho
theorem rch_l1 (st : List S78) (i : Nat) (hi : i < st.length) (h60 : st.length ≤ 60) (hps : (st.getD i z78).f0.length ≤ 1048576) : ∀ (d j : Nat) (out : List Bool) (r : List Bool), j + d = (st.getD i z78).f0.length → (∀ p, p ∈ (st.getD i z78).f0 → 0 ≤ p ∧ p < (out.length : Int)) → Ev (fun k => spec_l03Reach.l0 k st (markP out ((st.getD i z78).f0.drop j)) (i : Int)) r →
    Ev (fun k => spec_l03Reach.l1 k st out ((i + 1 : Nat) : Int) (j : Int)) r := by
  have hw1 : wrap64 (((i + 1 : Nat) : Int) - 1) = (i : Int) := by unfold wrap64; omega
  have c4 : (i : Int) < (st.length : Int) := by omega
  intro d
  induction d with
  | zero =>
    intro j out r hj hp h
    obtain rfl : j = (st.getD i z78).f0.length := by omega
    rw [List.drop_length] at h
    refine Ev.succ (g := fun k => spec_l03Reach.l1 k st out ((i + 1 : Nat) : Int) ((st.getD i z78).f0.length : Int)) ?_
    have c1 : ¬ (((st.getD i z78).f0.length : Int) < ((st.getD i z78).f0.length : Int)) := by omega
    simp only [spec_l03Reach.l1, hw1, rdC_, c1, if_false, Int.natCast_nonneg, c4, if_true]
    exact h
  | succ d ih =>
    intro j out r hj hp h
    have hl : j < (st.getD i z78).f0.length := by omega
    have c1 : (j : Int) < ((st.getD i z78).f0.length : Int) := by omega
    have er : rd (st.getD i z78).f0 (j : Int) = (st.getD i z78).f0[j] := by
      unfold rd
      rw [Int.toNat_natCast, List.getD_eq_getElem?_getD (l := (st.getD i z78).f0), List.getElem?_eq_getElem hl]
      rfl
    have hpj := hp _ (List.getElem_mem hl)
    refine Ev.succ (g := fun k => spec_l03Reach.l1 k st out ((i + 1 : Nat) : Int) (j : Int)) ?_
    simp only [spec_l03Reach.l1, hw1, rdC_, c1, if_true, Int.natCast_nonneg, c4, er, hpj.1, hpj.2, wrap_i (show j < 4611686018427387904 by omega)]
    refine ih (j + 1) _ r (by omega) (fun p hp2 => by rw [List.length_set]; exact hp p hp2) ?_
    rw [List.drop_eq_getElem_cons hl] at h
    exact h
theorem rch_l0 (st : List S78) (hs : storeB st = true) : ∀ (i : Nat) (out : List Bool), i ≤ st.length → out.length = st.length + 1 → Ev (fun k => spec_l03Reach.l0 k st out (i : Int)) (reachG st i out)
  | 0, out, _, _ => Ev.at_ (c := 1) (fun k => by
    have c1 : ¬ (((0 : Nat) : Int) > 0) := by omega
    simp only [spec_l03Reach.l0, c1, if_false]
    rfl)
  | i + 1, out, hi, ho => by
    obtain ⟨h60, _, hc⟩ := storeB_at hs
    have c1 : ((i + 1 : Nat) : Int) > 0 := by omega
    have c2 : (0 : Int) ≤ ((i + 1 : Nat) : Int) := by omega
    have c3 : ((i + 1 : Nat) : Int) < (out.length : Int) := by omega
    have hw1 : wrap64 (((i + 1 : Nat) : Int) - 1) = (i : Int) := by unfold wrap64; omega
    obtain ⟨hpar, _, h2⟩ := commitB_par (hc i (by omega))
    refine Ev.succ (g := fun k => spec_l03Reach.l0 k st out ((i + 1 : Nat) : Int)) ?_
    simp only [spec_l03Reach.l0, c1, c2, c3, if_true, hw1, rdB]
    rw [reachG]
    by_cases hb : out.getD (i + 1) false = true
    · simp only [hb, if_true]
      exact rch_l1 st i (by omega) h60 (by omega) _ 0 out _ (Nat.zero_add _) (fun p hp => by have := hpar p hp; omega) (rch_l0 st hs i _ (by omega) (by rw [markP_len]; exact ho))
    · simp only [hb, if_false]
      exact rch_l0 st hs i out (by omega) ho
def reachL (st : List S78) (id : Nat) : List Bool := reachG st id ((List.replicate (st.length + 1) false).set id true)
theorem reachL_len (st : List S78) (id : Nat) : (reachL st id).length = st.length + 1 := by
  unfold reachL
  rw [reachG_len, List.length_set, List.length_replicate]
theorem ancestors_ev (st : List S78) (hs : storeB st = true) (id : Nat) (hid : id ≤ st.length) : Ev (fun k => impl_ancestors.f k st (id : Int)) (reachL st id) := by
  obtain ⟨h60, _, _⟩ := storeB_at hs
  have hw : wrap64 ((st.length : Int) + 1) = ((st.length + 1 : Nat) : Int) := by unfold wrap64; omega
  have c1 : st.length + 1 ≤ 281474976710656 := by omega
  have c2 : (id : Int) < ((st.length + 1 : Nat) : Int) := by omega
  unfold impl_ancestors.f
  simp only [hw, Int.natCast_nonneg, if_true, Int.toNat_natCast, c1, Option.bind_some, List.length_replicate, c2]
  exact anc_l0 st hs id _ hid (by rw [List.length_set, List.length_replicate])
theorem reach_ev (st : List S78) (hs : storeB st = true) (id : Nat) (hid : id ≤ st.length) : Ev (fun k => spec_l03Reach.f k st (id : Int)) (reachL st id) := by
  obtain ⟨h60, _, _⟩ := storeB_at hs
  have hw : wrap64 ((st.length : Int) + 1) = ((st.length + 1 : Nat) : Int) := by unfold wrap64; omega
  have c1 : st.length + 1 ≤ 281474976710656 := by omega
  have c2 : (id : Int) < ((st.length + 1 : Nat) : Int) := by omega
  unfold spec_l03Reach.f
  simp only [hw, Int.natCast_nonneg, if_true, Int.toNat_natCast, c1, Option.bind_some, List.length_replicate, c2]
  exact rch_l0 st hs id _ hid (by rw [List.length_set, List.length_replicate])
theorem getD_set (l : List Bool) (i j : Nat) (h : i < l.length) : (l.set i true).getD j false = (decide (i = j) || l.getD j false) := by
  rw [List.getD_eq_getElem?_getD, List.getD_eq_getElem?_getD, List.getElem?_set]
  by_cases e : i = j
  · subst e
    simp [h]
  · simp [e]
theorem markP_get (ps : List Int) : ∀ (out : List Bool) (j : Nat), (∀ p, p ∈ ps → 0 ≤ p ∧ p < (out.length : Int)) → ((markP out ps).getD j false = true ↔ out.getD j false = true ∨ ∃ p, p ∈ ps ∧ p.toNat = j) := by
  induction ps with
  | nil => intro out j _; simp [markP]
  | cons p ps ih =>
    intro out j hp
    have h1 := hp p List.mem_cons_self
    have e : markP out (p :: ps) = markP (out.set p.toNat true) ps := rfl
    rw [e, ih _ _ (fun q hq => by rw [List.length_set]; exact hp q (List.mem_cons_of_mem _ hq)), getD_set _ _ _ (by omega)]
    simp only [Bool.or_eq_true, decide_eq_true_eq, List.mem_cons]
    constructor
    · rintro ((h | h) | ⟨q, hq, h⟩)
      · exact .inr ⟨p, .inl rfl, h⟩
      · exact .inl h
      · exact .inr ⟨q, .inr hq, h⟩
    · rintro (h | ⟨q, rfl | hq, h⟩)
      · exact .inl (.inr h)
      · exact .inl (.inl h)
      · exact .inr ⟨q, hq, h⟩
theorem reachG_mono (st : List S78) (hs : storeB st = true) : ∀ (i : Nat) (out : List Bool), i ≤ st.length → out.length = st.length + 1 → ∀ j, out.getD j false = true → (reachG st i out).getD j false = true
  | 0, out, _, _, j, h => h
  | i + 1, out, hi, ho, j, h => by
    obtain ⟨h60, _, hc⟩ := storeB_at hs
    obtain ⟨hpar, _, _⟩ := commitB_par (hc i (by omega))
    rw [reachG]
    by_cases hb : out.getD (i + 1) false = true
    · rw [if_pos hb]
      exact reachG_mono st hs i _ (by omega) (by rw [markP_len]; exact ho) j ((markP_get _ _ _ (fun p hp => by have := hpar p hp; omega)).mpr (.inl h))
    · rw [if_neg hb]
      exact reachG_mono st hs i out (by omega) ho j h
theorem reachG_one (st : List S78) (hs : storeB st = true) : ∀ (i : Nat) (out : List Bool), i ≤ st.length → out.length = st.length + 1 → (∃ j, 1 ≤ j ∧ j ≤ i ∧ out.getD j false = true) → (reachG st i out).getD 1 false = true
  | 0, out, _, _, ⟨j, h1, h2, _⟩ => by omega
  | i + 1, out, hi, ho, ⟨j, h1, h2, h3⟩ => by
    obtain ⟨h60, _, hc⟩ := storeB_at hs
    obtain ⟨hpar, hne, _⟩ := commitB_par (hc i (by omega))
    by_cases h0 : i = 0
    · subst h0
      obtain rfl : j = 1 := by omega
      exact reachG_mono st hs 1 out hi ho 1 h3
    rw [reachG]
    by_cases hb : out.getD (i + 1) false = true
    · rw [if_pos hb]
      obtain ⟨p, hp⟩ := List.exists_mem_of_ne_nil _ (hne h0)
      have h4 := hpar p hp
      exact reachG_one st hs i _ (by omega) (by rw [markP_len]; exact ho) ⟨p.toNat, by omega, by omega, (markP_get _ _ _ (fun q hq => by have := hpar q hq; omega)).mpr (.inr ⟨p, hp, rfl⟩)⟩
    · rw [if_neg hb]
      refine reachG_one st hs i out (by omega) ho ⟨j, h1, ?_, h3⟩
      have : j ≠ i + 1 := by
        rintro rfl
        exact hb h3
      omega
theorem reachL_one {st : List S78} (hs : storeB st = true) {id : Nat} (h1 : 1 ≤ id) (h2 : id ≤ st.length) : (reachL st id).getD 1 false = true := by
  refine reachG_one st hs id _ h2 (by rw [List.length_set, List.length_replicate]) ⟨id, h1, Nat.le_refl _, ?_⟩
  rw [getD_set _ _ _ (by rw [List.length_replicate]; omega)]
  simp
def askC (st : List S78) (ids : List Int) : Int := if (st.length : Int) > 4096 then 2 else if storeB st = true then (if ids.all (fun x => inB x 1 st.length) = true then 0 else 5) else 1
theorem idCode_ev (st : List S78) (ids : List Int) (hs : st.length ≤ 1048576) (hf : ∀ x, x ∈ st → x.f1.length ≤ 1048576) : Ev (fun k => impl_idCode.f k st ids) (askC st ids) := by
  unfold impl_idCode.f askC impl_Commit_97.f
  by_cases h : (st.length : Int) > 4096
  · have h2 : ¬ (st.length : Int) ≤ 4096 := by omega
    simp only [h, h2, if_true, Option.bind_some, decide_false, Bool.false_eq_true, if_false]
    exact Ev.now _
  have h2 : (st.length : Int) ≤ 4096 := by omega
  simp only [h, h2, if_false, Option.bind_some, decide_true, if_true]
  refine Ev.bind (storeOK_ev st hs hf) ?_
  cases storeB st with
  | false => simp only [Bool.false_eq_true, if_false]; exact Ev.now _
  | true =>
    simp only [if_true, areAllint_idCode.f, Option.bind_some]
    cases ids.all (fun x => inB x 1 st.length) with
    | false => simp only [Bool.false_eq_true, if_false]; exact Ev.now _
    | true => simp only [if_true]; exact Ev.now _
theorem l03Ask_ev (st : List S78) (ids : List Int) (hi : ids.length ≤ 1048576) : Ev (fun k => spec_l03Ask.f k st ids) (askC st ids) := by
  unfold spec_l03Ask.f askC
  by_cases h : (st.length : Int) > 4096
  · simp only [h, if_true]
    exact Ev.now _
  simp only [h, if_false]
  refine Ev.bind (l03OK_ev st) ?_
  cases storeB st with
  | false => simp only [Bool.false_eq_true, if_false]; exact Ev.now _
  | true =>
    simp only [if_true]
    have key : ∀ (d j : Nat), j + d = ids.length → Ev (fun k => spec_l03Ask.l0 k st ids (j : Int)) (if (ids.drop j).all (fun x => inB x 1 st.length) = true then 0 else 5) := by
      intro d
      induction d with
      | zero =>
        intro j hj
        rw [List.drop_eq_nil_of_le (by omega)]
        refine Ev.at_ (c := 1) (fun k => ?_)
        simp only [spec_l03Ask.l0]
        rw [if_neg (by omega)]
        rfl
      | succ d ih =>
        intro j hj
        have hl : j < ids.length := by omega
        have c1 : (j : Int) < (ids.length : Int) := by omega
        have er : rd ids (j : Int) = ids[j] := by simp [rd, List.getD_eq_getElem?_getD, List.getElem?_eq_getElem hl]
        rw [List.drop_eq_getElem_cons hl]
        refine Ev.succ (g := fun k => spec_l03Ask.l0 k st ids (j : Int)) ?_
        simp only [spec_l03Ask.l0, c1, if_true, Int.natCast_nonneg, er, l01In_is, Option.bind_some, List.all_cons]
        by_cases hq : inB ids[j] 1 st.length = true
        · simp only [hq, if_true, Bool.true_and, wrap_i (show j < 4611686018427387904 by omega)]
          exact ih (j + 1) (by omega)
        · rw [Bool.not_eq_true] at hq
          simp only [hq, Bool.false_eq_true, if_false, Bool.false_and]
          exact Ev.now _
    exact key ids.length 0 (by omega)
theorem askC_zero {st : List S78} {ids : List Int} (h : askC st ids = 0) : storeB st = true ∧ ∀ x, x ∈ ids → 1 ≤ x ∧ x ≤ (st.length : Int) := by
  unfold askC at h
  by_cases h1 : (st.length : Int) > 4096
  · rw [if_pos h1] at h
    omega
  rw [if_neg h1] at h
  by_cases h2 : storeB st = true
  · rw [if_pos h2] at h
    by_cases h3 : ids.all (fun x => inB x 1 st.length) = true
    · refine ⟨h2, fun x hx => ?_⟩
      have := List.all_eq_true.mp h3 x hx
      simpa [inB] using this
    · rw [if_neg h3] at h
      omega
  · rw [if_neg h2] at h
    omega
theorem askC_long {st : List S78} {ids : List Int} (h : (st.length : Int) > 4096) : askC st ids = 2 := by
  unfold askC
  rw [if_pos h]
end Go.Proofs.Ytekoaaiemmblgaa.Q
end

section
namespace Go.Proofs.Ytekoaaiemmblgaa.Q
open Go.RowKit Go.Proofs.YtekoaaiemmblgaaW.PrintWords Go.Proofs.YtekoaaiemmblgaaW.PrintLast
set_option linter.unusedVariables false
set_option linter.unusedSimpArgs false
theorem base_loop (x y : List Bool) (hx : x.getD 1 false = true) (hy : y.getD 1 false = true) : ∀ i : Nat, 1 ≤ i → i < x.length → i < y.length → i < 4611686018427387904 → ∃ r : Nat, 1 ≤ r ∧ r ≤ i ∧ Ev (fun k => spec_l03Base.l0 k x y (i : Int)) (r : Int) ∧ Ev (fun k => impl_baseOf.l0 k x y (i : Int)) (r : Int)
  | 0, h, _, _, _ => by omega
  | i + 1, h1, hi, hj, hb => by
    have c1 : ((i + 1 : Nat) : Int) < (x.length : Int) := by omega
    have c2 : ((i + 1 : Nat) : Int) < (y.length : Int) := by omega
    have hw : wrap64 (((i + 1 : Nat) : Int) - 1) = (i : Int) := by unfold wrap64; omega
    by_cases hxy : x.getD (i + 1) false = true ∧ y.getD (i + 1) false = true
    · refine ⟨i + 1, h1, Nat.le_refl _, Ev.at_ (c := 1) (fun k => ?_), Ev.at_ (c := 1) (fun k => ?_)⟩
      · simp only [spec_l03Base.l0, Int.natCast_nonneg, if_true, c1, c2, rdB, hxy.1, hxy.2]
      · simp only [impl_baseOf.l0, Int.natCast_nonneg, if_true, c1, c2, rdB, hxy.1, hxy.2]
    · have h0 : i ≠ 0 := by
        rintro rfl
        exact hxy ⟨hx, hy⟩
      obtain ⟨r, hr1, hr2, e1, e2⟩ := base_loop x y hx hy i (by omega) (by omega) (by omega) (by omega)
      refine ⟨r, hr1, by omega, ?_, ?_⟩
      · refine Ev.succ (g := fun k => spec_l03Base.l0 k x y ((i + 1 : Nat) : Int)) ?_
        by_cases h3 : x.getD (i + 1) false = true
        · have h4 : ¬ (y.getD (i + 1) false = true) := fun h => hxy ⟨h3, h⟩
          simp only [spec_l03Base.l0, Int.natCast_nonneg, if_true, c1, c2, rdB, h3, h4, if_false, hw]
          exact e1
        · simp only [spec_l03Base.l0, Int.natCast_nonneg, if_true, c1, c2, rdB, h3, if_false, hw]
          exact e1
      · refine Ev.succ (g := fun k => impl_baseOf.l0 k x y ((i + 1 : Nat) : Int)) ?_
        by_cases h3 : x.getD (i + 1) false = true
        · have h4 : ¬ (y.getD (i + 1) false = true) := fun h => hxy ⟨h3, h⟩
          simp only [impl_baseOf.l0, Int.natCast_nonneg, if_true, c1, c2, rdB, h3, h4, if_false, hw]
          exact e2
        · simp only [impl_baseOf.l0, Int.natCast_nonneg, if_true, c1, c2, rdB, h3, if_false, hw]
          exact e2
theorem baseOf_both (st : List S78) (hs : storeB st = true) (i j : Nat) (h1 : 1 ≤ i) (h2 : i ≤ st.length) (h3 : 1 ≤ j) (h4 : j ≤ st.length) :
    ∃ r : Nat, 1 ≤ r ∧ r ≤ st.length ∧ Ev (fun k => spec_l03Base.f k st (i : Int) (j : Int)) (r : Int) ∧ Ev (fun k => impl_baseOf.f k st (i : Int) (j : Int)) (r : Int) := by
  obtain ⟨h60, _, _⟩ := storeB_at hs
  have em : mn (i : Int) (j : Int) = ((min i j : Nat) : Int) := by unfold mn; split <;> omega
  obtain ⟨r, hr1, hr2, e1, e2⟩ := base_loop (reachL st i) (reachL st j) (reachL_one hs h1 h2) (reachL_one hs h3 h4) (min i j) (by omega) (by rw [reachL_len]; omega) (by rw [reachL_len]; omega) (by omega)
  refine ⟨r, hr1, by omega, ?_, ?_⟩
  · unfold spec_l03Base.f
    refine Ev.bind (reach_ev st hs i h2) (Ev.bind (reach_ev st hs j h4) ?_)
    rw [em]
    exact e1
  · unfold impl_baseOf.f
    refine Ev.bind (ancestors_ev st hs i h2) (Ev.bind (ancestors_ev st hs j h4) ?_)
    rw [em]
    exact e2
end Go.Proofs.Ytekoaaiemmblgaa.Q
end

section
namespace Go.Proofs.Ytekoaaiemmblgaa.Q
open Go.RowKit Go.Proofs.YtekoaaiemmblgaaW.PrintWords Go.Proofs.YtekoaaiemmblgaaW.PrintLast
set_option linter.unusedVariables false
def cvEntry (x : S84) : S87 := ⟨x.f0, x.f1⟩
theorem toEntryS_ev (l : List S84) (h : l.length ≤ 1048576) : Ev (fun k => laws_toEntryS.f k l) (l.map cvEntry) := by
  refine Ev.congr (f := fun k => laws_toEntryS.l0 k l (List.replicate l.length z87) 0) (fun k => ?_) ?_
  · unfold laws_toEntryS.f
    rw [if_pos (by omega), if_pos (by omega)]
    rfl
  · exact ev_map_loop (L := laws_toEntryS.l0) (g := fun _ x => some (cvEntry x)) (z := z84) (fun _ _ _ _ => rfl) l (by omega) (fun x _ => Ev.now _) _ (by simp)
theorem eqEntry_refl (x : S87) : laws_eqEntry.f x.f0 x.f1 x.f0 x.f1 = some true := by
  unfold laws_eqEntry.f
  simp
theorem eqEntryS_ev (l : List S87) (h : l.length ≤ 1048576) : Ev (fun k => laws_eqEntryS.f k l l) true := by
  refine Ev.congr (f := fun k => laws_eqEntryS.l0 k l l 0) (fun k => ?_) ?_
  · unfold laws_eqEntryS.f
    rw [if_pos rfl]
  · exact ev_refl_loop (L := laws_eqEntryS.l0) (g := fun _ x y => laws_eqEntry.f x.f0 x.f1 y.f0 y.f1) (z := z87) (fun _ _ _ _ => rfl) l (by omega) (fun x _ => Ev.congr (fun _ => eqEntry_refl x) (Ev.now _))
theorem szEntryS_ev (l : List S84) (hl : l.length ≤ 9223372036854775807) (hg : ∀ x, x ∈ l → good84 x) (left : Int) (h0 : 0 ≤ left) (h1 : left ≤ 1048576) :
    ∃ r, Ev (fun k => laws_szEntryS.f k l left) r ∧ r ≤ left ∧ (0 ≤ r → l.length ≤ 1048576) := by
  have hw : wrap64 (left - (l.length : Int)) = left - (l.length : Int) := by unfold wrap64; omega
  by_cases hn : left - (l.length : Int) < 0
  · refine ⟨-1, Ev.congr (f := fun _ => some (-1)) (fun k => ?_) (Ev.now _), by omega, by omega⟩
    unfold laws_szEntryS.f
    rw [hw, if_pos hn]
  · obtain ⟨r, hr, hrl⟩ := ev_sz_loop (L := laws_szEntryS.l0) (g := fun _ x left => laws_szEntry.f x.f0 x.f1 left) (z := z84) (fun _ _ _ _ => rfl) l (by omega) (fun x hx left h0 h1 => by
      have hsz : x.f0.size ≤ 9223372036854775807 := (hg x hx).1
      have hw2 : wrap64 (left - (x.f0.size : Int)) = left - (x.f0.size : Int) := by unfold wrap64; omega
      by_cases h2 : left - (x.f0.size : Int) < 0
      · refine ⟨-1, Ev.congr (f := fun _ => some (-1)) (fun k => ?_) (Ev.now _), by omega⟩
        unfold laws_szEntry.f
        rw [hw2, if_pos h2]
      · refine ⟨left - (x.f0.size : Int), Ev.congr (f := fun _ => some (left - (x.f0.size : Int))) (fun k => ?_) (Ev.now _), by omega⟩
        unfold laws_szEntry.f
        rw [hw2, if_neg h2]) (left - (l.length : Int)) (by omega) (by omega)
    refine ⟨r, Ev.congr (f := fun k => laws_szEntryS.l0 k l (left - (l.length : Int)) 0) (fun k => ?_) hr, by omega, by omega⟩
    unfold laws_szEntryS.f
    rw [hw, if_neg hn]
end Go.Proofs.Ytekoaaiemmblgaa.Q
end

section
namespace Go.Proofs.Ytekoaaiemmblgaa.Q
open Go.RowKit Go.Proofs.YtekoaaiemmblgaaW.PrintWords Go.Proofs.YtekoaaiemmblgaaW.PrintLast
set_option linter.unusedVariables false
set_option linter.unusedSimpArgs false
theorem toIntS_ev (l : List Int) (h : l.length ≤ 1048576) : Ev (fun k => laws_toIntS.f k l) l := by
  refine Ev.congr (f := fun k => laws_toIntS.l0 k l (List.replicate l.length 0) 0) (fun k => ?_) ?_
  · unfold laws_toIntS.f
    rw [if_pos (by omega), if_pos (by omega)]
    rfl
  · have h2 := ev_map_loop (L := laws_toIntS.l0) (g := fun _ x => some x) (cv := fun x => x) (z := (0 : Int)) (fun _ _ _ _ => rfl) l (by omega) (fun x _ => Ev.now _) (List.replicate l.length 0) (by simp)
    simpa using h2
theorem eqIntS_ev (l : List Int) (hl : l.length ≤ 1048576) : Ev (fun k => laws_eqIntS.f k l l) true := by
  obtain ⟨b, hb, h⟩ := ev_same_loop (L := fun k i => laws_eqIntS.l0 k l l i) (xs := l) (ys := l) rfl (fun i h1 h2 e k => by
    have c1 : (i : Int) < (l.length : Int) := by omega
    simp only [laws_eqIntS.l0, c1, Int.natCast_nonneg, if_true, wrap_i (show i < 4611686018427387904 by omega)]) (fun i h1 h2 e k => absurd rfl e) (fun k => by
    simp only [laws_eqIntS.l0]
    rw [if_neg (by omega)])
  obtain rfl : b = true := h.mpr rfl
  exact Ev.congr (f := fun k => laws_eqIntS.l0 k l l 0) (fun k => by unfold laws_eqIntS.f; rw [if_pos rfl]) hb
theorem szIntS_ev (l : List Int) (hl : l.length ≤ 9223372036854775807) (left : Int) (h0 : 0 ≤ left) (h1 : left ≤ 1048576) :
    ∃ r, laws_szIntS.f l left = some r ∧ r ≤ left ∧ (0 ≤ r → l.length ≤ 1048576) := by
  have hw : wrap64 (left - (l.length : Int)) = left - (l.length : Int) := by unfold wrap64; omega
  unfold laws_szIntS.f
  rw [hw]
  by_cases hn : left - (l.length : Int) < 0
  · exact ⟨-1, by rw [if_pos hn], by omega, by omega⟩
  · exact ⟨left - (l.length : Int), by rw [if_neg hn], by omega, by omega⟩
def cvCommit (x : S75) : S78 := ⟨x.f0, x.f1.map cvEntry⟩
def fitC (x : S75) : Prop := x.f0.length ≤ 1048576 ∧ x.f1.length ≤ 1048576
theorem szCommit_ev (x : S75) (g : good75 x) (left : Int) (h0 : 0 ≤ left) (h1 : left ≤ 1048576) : ∃ r, Ev (fun k => laws_szCommit.f k x.f0 x.f1 left) r ∧ r ≤ left ∧ (0 ≤ r → fitC x) := by
  unfold laws_szCommit.f
  obtain ⟨r, hr, hrl, hrs⟩ := szIntS_ev x.f0 g.1.1 left h0 h1
  simp only [hr, Option.bind_some]
  by_cases hn : r < 0
  · exact ⟨-1, by simp only [hn, if_true]; exact Ev.now _, by omega, by omega⟩
  · obtain ⟨r', hr', hrl', hrs'⟩ := szEntryS_ev x.f1 g.2.1 g.2.2 r (by omega) (by omega)
    by_cases hn' : r' < 0
    · exact ⟨-1, by simp only [hn, if_false]; refine Ev.bind hr' ?_; simp only [hn', if_true]; exact Ev.now _, by omega, by omega⟩
    · exact ⟨r', by simp only [hn, if_false]; refine Ev.bind hr' ?_; simp only [hn', if_false]; exact Ev.now _, by omega, fun h => ⟨hrs (by omega), hrs' h⟩⟩
theorem ev_sz_loop2 {α : Type} {L : Nat → List α → Int → Int → Option Int} {g : Nat → α → Int → Option Int} {z : α} {P : α → Prop}
    (step : ∀ k xs left i, L (k + 1) xs left i = if i < (xs.length : Int) then (if 0 ≤ i then ((g k (xs.getD i.toNat z) left).bind fun t => (if t < 0 then some (-1) else L k xs t (wrap64 (i + 1)))) else none) else some left)
    (xs : List α) (hlen : xs.length ≤ 4611686018427387904) (hg : ∀ x, x ∈ xs → ∀ left : Int, 0 ≤ left → left ≤ 1048576 → ∃ r, Ev (fun k => g k x left) r ∧ r ≤ left ∧ (0 ≤ r → P x)) (left : Int) (h0 : 0 ≤ left) (h1 : left ≤ 1048576) :
    ∃ r, Ev (fun k => L k xs left 0) r ∧ r ≤ left ∧ (0 ≤ r → ∀ x, x ∈ xs → P x) := by
  have key : ∀ d (i : Nat) (left : Int), i + d = xs.length → 0 ≤ left → left ≤ 1048576 → ∃ r, Ev (fun k => L k xs left (i : Int)) r ∧ r ≤ left ∧ (0 ≤ r → ∀ x, x ∈ xs.drop i → P x) := by
    intro d
    induction d with
    | zero =>
      intro i left hi h0 h1
      refine ⟨left, Ev.step (f := fun _ => some left) (fun k => by rw [step, if_neg (by omega)]) (Ev.now left), by omega, fun _ x hx => ?_⟩
      rw [List.drop_eq_nil_of_le (by omega)] at hx
      cases hx
    | succ d ih =>
      intro i left hi h0 h1
      have hl : i < xs.length := by omega
      have hw : wrap64 ((i : Int) + 1) = ((i + 1 : Nat) : Int) := by unfold wrap64; omega
      have hx : xs.getD ((i : Int).toNat) z = xs[i] := by simp [List.getD_eq_getElem?_getD, List.getElem?_eq_getElem hl]
      obtain ⟨t, ht, htl, hP⟩ := hg _ (List.getElem_mem hl) left h0 h1
      have hstep : ∀ k, L (k + 1) xs left (i : Int) = (g k xs[i] left).bind fun t => if t < 0 then some (-1) else L k xs t ((i + 1 : Nat) : Int) := fun k => by rw [step, if_pos (by omega), if_pos (by omega), hx, hw]
      by_cases hn : t < 0
      · refine ⟨-1, Ev.step hstep (Ev.bind ht ?_), by omega, by omega⟩
        simp only [hn, if_true]
        exact Ev.now _
      · obtain ⟨r, hr, hrl, hrP⟩ := ih (i + 1) t (by omega) (by omega) (by omega)
        refine ⟨r, Ev.step hstep (Ev.bind ht ?_), by omega, fun h x hx => ?_⟩
        · simp only [hn, if_false]
          exact hr
        · rw [List.drop_eq_getElem_cons hl] at hx
          rcases List.mem_cons.mp hx with rfl | hx
          · exact hP (by omega)
          · exact hrP h x hx
  have h := key xs.length 0 left (by omega) h0 h1
  simpa using h
theorem szCommitS_ev (l : List S75) (hl : l.length ≤ 9223372036854775807) (hg : ∀ x, x ∈ l → good75 x) (left : Int) (h0 : 0 ≤ left) (h1 : left ≤ 1048576) :
    ∃ r, Ev (fun k => laws_szCommitS.f k l left) r ∧ r ≤ left ∧ (0 ≤ r → l.length ≤ 1048576 ∧ ∀ x, x ∈ l → fitC x) := by
  have hw : wrap64 (left - (l.length : Int)) = left - (l.length : Int) := by unfold wrap64; omega
  by_cases hn : left - (l.length : Int) < 0
  · refine ⟨-1, Ev.congr (f := fun _ => some (-1)) (fun k => ?_) (Ev.now _), by omega, by omega⟩
    unfold laws_szCommitS.f
    rw [hw, if_pos hn]
  · obtain ⟨r, hr, hrl, hrP⟩ := ev_sz_loop2 (L := laws_szCommitS.l0) (g := fun k x left => laws_szCommit.f k x.f0 x.f1 left) (z := z75) (P := fitC) (fun _ _ _ _ => rfl) l (by omega) (fun x hx left h0 h1 => szCommit_ev x (hg x hx) left h0 h1) (left - (l.length : Int)) (by omega) (by omega)
    refine ⟨r, Ev.congr (f := fun k => laws_szCommitS.l0 k l (left - (l.length : Int)) 0) (fun k => ?_) hr, by omega, fun h => ⟨by omega, hrP h⟩⟩
    unfold laws_szCommitS.f
    rw [hw, if_neg hn]
theorem toCommit_ev (x : S75) (h : fitC x) : Ev (fun k => laws_toCommit.f k x.f0 x.f1) (x.f0, x.f1.map cvEntry) := by
  unfold laws_toCommit.f
  exact Ev.bind (toIntS_ev _ h.1) (Ev.bind (toEntryS_ev _ h.2) (Ev.now _))
theorem toCommitS_ev (l : List S75) (h : l.length ≤ 1048576) (hf : ∀ x, x ∈ l → fitC x) : Ev (fun k => laws_toCommitS.f k l) (l.map cvCommit) := by
  refine Ev.congr (f := fun k => laws_toCommitS.l0 k l (List.replicate l.length z78) 0) (fun k => ?_) ?_
  · unfold laws_toCommitS.f
    rw [if_pos (by omega), if_pos (by omega)]
    rfl
  · exact ev_map_loop (L := laws_toCommitS.l0) (g := fun k x => (laws_toCommit.f k x.f0 x.f1).bind fun bt => some (⟨bt.1, bt.2⟩ : S78)) (cv := cvCommit) (z := z75) (fun k xs acc i => by
      simp only [laws_toCommitS.l0, Option.bind_assoc, Option.bind_some]
      rfl) l (by omega) (fun x hx => Ev.bind (toCommit_ev x (hf x hx)) (Ev.now _)) _ (by simp)
theorem eqCommitS_ev (l : List S78) (h : l.length ≤ 1048576) (hf : ∀ x, x ∈ l → x.f0.length ≤ 1048576 ∧ x.f1.length ≤ 1048576) : Ev (fun k => laws_eqCommitS.f k l l) true := by
  refine Ev.congr (f := fun k => laws_eqCommitS.l0 k l l 0) (fun k => ?_) ?_
  · unfold laws_eqCommitS.f
    rw [if_pos rfl]
  · exact ev_refl_loop (L := laws_eqCommitS.l0) (g := fun k x y => laws_eqCommit.f k x.f0 x.f1 y.f0 y.f1) (z := z78) (fun _ _ _ _ => rfl) l (by omega) (fun x hx => by
      unfold laws_eqCommit.f
      refine Ev.bind (eqIntS_ev _ (hf x hx).1) ?_
      simp only [if_true]
      refine Ev.bind (eqEntryS_ev _ (hf x hx).2) ?_
      simp only [if_true]
      exact Ev.now _)
theorem fit_cv {l : List S75} (hf : ∀ x, x ∈ l → fitC x) : ∀ x, x ∈ l.map cvCommit → x.f0.length ≤ 1048576 ∧ x.f1.length ≤ 1048576 := by
  intro x hx
  obtain ⟨y, hy, rfl⟩ := List.mem_map.mp hx
  exact ⟨(hf y hy).1, by simpa [cvCommit] using (hf y hy).2⟩
end Go.Proofs.Ytekoaaiemmblgaa.Q
end

section
namespace Go.Proofs.Ytekoaaiemmblgaa.Pure
open Go.RowKit Go.Proofs.Ytekoaaiemmblgaa.Q Go.Proofs.YtekoaaiemmblgaaW.PrintWords Go.Proofs.YtekoaaiemmblgaaW.PrintLast
set_option linter.unusedVariables false
set_option linter.unusedSimpArgs false
theorem base_both (st : List S78) (a b : Int) (hl : st.length ≤ 1048576) (hf : ∀ x, x ∈ st → x.f1.length ≤ 1048576) : ∃ r c, Ev (fun k => spec_BaseOf.f k st a b) (r, c) ∧ Ev (fun k => impl_BaseOf.f k st a b) (r, c) := by
  have hI := idCode_ev st [a, b] hl hf
  have hS := l03Ask_ev st [a, b] (by simp)
  unfold spec_BaseOf.f impl_BaseOf.f
  by_cases h1 : (st.length : Int) > 4096
  · rw [askC_long h1] at hI
    exact ⟨0, 2, by simp only [h1, if_true]; exact Ev.now _, Ev.bind hI (Ev.now _)⟩
  simp only [h1, if_false]
  by_cases h0 : askC st [a, b] = 0
  · obtain ⟨hs, hx⟩ := askC_zero h0
    have ha := hx a (by simp)
    have hb := hx b (by simp)
    obtain ⟨i, rfl⟩ : ∃ i : Nat, a = (i : Int) := ⟨a.toNat, by omega⟩
    obtain ⟨j, rfl⟩ : ∃ j : Nat, b = (j : Int) := ⟨b.toNat, by omega⟩
    rw [h0] at hI hS
    obtain ⟨r, _, _, e1, e2⟩ := baseOf_both st hs i j (by omega) (by omega) (by omega) (by omega)
    refine ⟨(r : Int), 0, Ev.bind hS ?_, Ev.bind hI ?_⟩
    · simp only [if_true]
      exact Ev.bind e1 (Ev.now _)
    · simp only [if_true]
      exact Ev.bind e2 (Ev.now _)
  · exact ⟨0, askC st [a, b], Ev.bind hS (by simp only [h0, if_false]; exact Ev.now _), Ev.bind hI (by simp only [h0, if_false]; exact Ev.now _)⟩
theorem FnExactBaseOf : laws_FnExactBaseOf.Pure := by
  intro l0 a1 a2 w0 w1 w2
  refine Ev.rounds ?_
  unfold laws_FnExactBaseOf.f
  obtain ⟨r, hr, hrl, hrs⟩ := szCommitS_ev l0 w0.1 w0.2 1048576 (by omega) (by omega)
  refine Ev.bind hr ?_
  by_cases hn : r < 0
  · simp only [hn, if_true]
    exact Ev.now _
  simp only [hn, if_false]
  obtain ⟨hl, hf⟩ := hrs (by omega)
  have ht := toCommitS_ev l0 hl hf
  have hf2 := fit_cv hf
  have hl2 : (l0.map cvCommit).length ≤ 1048576 := by simpa using hl
  obtain ⟨q, c, hs, hi⟩ := base_both (l0.map cvCommit) a1 a2 hl2 (fun x hx => (hf2 x hx).2)
  refine Ev.bind ht (Ev.bind hs (Ev.bind ht (Ev.bind hi ?_)))
  simp only [if_true, bne_self_eq_false]
  refine Ev.succ ?_
  simp only [laws_FnExactBaseOf.j0, Bool.false_eq_true, if_false]
  refine Ev.bind ht (Ev.bind (eqCommitS_ev _ hl2 hf2) ?_)
  simp only [if_true]
  exact Ev.now _
end Go.Proofs.Ytekoaaiemmblgaa.Pure
end
