/- Parts of the proof of the law FnExactPut, joined into one text. -/
import Derived.Test.YtcpljigliklgcaaMFnExactPut2
section
namespace Go.Proofs.Ytcpljigliklgcaa.Pure
open Go.RowKit Go.Proofs.Ytcpljigliklgcaa.Q Go.Proofs.YtcpljigliklgcaaW.PrintWords Go.Proofs.YtcpljigliklgcaaW.PrintLast
set_option linter.unusedVariables false
set_option linter.unusedSimpArgs false
theorem isValue_is (v : Int) : impl_isValue.f v = some (inB v (-1000000) 1000000) := by
  unfold impl_isValue.f impl_within.f inB
  by_cases h : -1000000 ≤ v <;> simp [h]
theorem put_both (l : List S51) (n : ByteArray) (v : Int) (hl : l.length ≤ 1048576) : ∃ res code, Ev (fun k => spec_Put.f k l n v) (res, code) ∧ Ev (fun k => impl_Put.f k l n v) (res, code) ∧ res.length ≤ 1048576 := by
  by_cases hb : mapBig l n
  · refine ⟨[], 2, Ev.at_ (c := 1) (fun k => ?_), ?_, by simp⟩
    · unfold spec_Put.f
      by_cases h1 : (l.length : Int) > 4096
      · simp only [h1, if_true, spec_Put.j0]
      · have h2 : (n.size : Int) > 65536 := by rcases hb with h | h <;> omega
        simp only [h1, h2, if_false, decide_true, spec_Put.j0, if_true]
    · unfold impl_Put.f
      refine Ev.bind (keyCode_big hb) ?_
      exact Ev.now _
  have h1 : ¬ (l.length : Int) > 4096 := by unfold mapBig at hb; omega
  have h2 : ¬ (n.size : Int) > 65536 := by unfold mapBig at hb; omega
  have hs : ∀ r, Ev (fun k => spec_Put.j0 k l n v false) r → Ev (fun k => spec_Put.f k l n v) r := fun r h => Ev.congr (fun k => by unfold spec_Put.f; simp only [h1, h2, if_false, decide_false]) h
  cases hr : (mapB l && nameB n) with
  | false =>
    refine ⟨[], 1, hs _ (Ev.succ ?_), ?_, by simp⟩
    · simp only [spec_Put.j0, Bool.false_eq_true, if_false]
      refine Ev.bind (l01Ask_small hb) ?_
      simp only [hr, Bool.false_eq_true, if_false]
      exact Ev.now _
    · unfold impl_Put.f
      refine Ev.bind (keyCode_small hb) ?_
      simp only [hr, Bool.false_eq_true, if_false]
      exact Ev.now _
  | true =>
    have hm : mapB l = true := by simp only [Bool.and_eq_true] at hr; exact hr.1
    have hri := mapB_rise hm
    have h12 := mapB_len hm
    cases hv : inB v (-1000000) 1000000 with
    | false =>
      refine ⟨[], 4, hs _ (Ev.succ ?_), ?_, by simp⟩
      · simp only [spec_Put.j0, Bool.false_eq_true, if_false]
        refine Ev.bind (l01Ask_small hb) ?_
        simp only [hr, if_true, l01In_is, Option.bind_some, hv, Bool.false_eq_true, if_false]
        exact Ev.now _
      · unfold impl_Put.f
        refine Ev.bind (keyCode_small hb) ?_
        simp only [hr, if_true, isValue_is, Option.bind_some, hv, Bool.false_eq_true, if_false]
        exact Ev.now _
    | true =>
      have hS := l01Put_ev hri n v (show l.length ≤ 1000000 by omega)
      have hI := edited_ev [(⟨n, v, false⟩ : S134)] hri (by rw [List.length_singleton]; omega)
      have he : [(⟨n, v, false⟩ : S134)].foldl edit1 l = putL l n v := by
        rw [List.foldl_cons, List.foldl_nil]
        unfold edit1
        rw [if_neg (by simp)]
      rw [he] at hI
      have hlen := putL_len l n v
      by_cases h13 : ((putL l n v).length : Int) > 12
      · refine ⟨[], 7, hs _ (Ev.succ ?_), ?_, by simp⟩
        · simp only [spec_Put.j0, Bool.false_eq_true, if_false]
          refine Ev.bind (l01Ask_small hb) ?_
          simp only [hr, if_true, l01In_is, Option.bind_some, hv]
          refine Ev.bind hS ?_
          simp only [h13, if_true]
          exact Ev.now _
        · unfold impl_Put.f
          refine Ev.bind (keyCode_small hb) ?_
          simp only [hr, if_true, isValue_is, Option.bind_some, hv]
          refine Ev.bind hI ?_
          simp only [impl_limited.f, h13, if_true, Option.bind_some]
          exact Ev.now _
      · refine ⟨putL l n v, 0, hs _ (Ev.succ ?_), ?_, by omega⟩
        · simp only [spec_Put.j0, Bool.false_eq_true, if_false]
          refine Ev.bind (l01Ask_small hb) ?_
          simp only [hr, if_true, l01In_is, Option.bind_some, hv]
          refine Ev.bind hS ?_
          simp only [h13, if_false]
          exact Ev.now _
        · unfold impl_Put.f
          refine Ev.bind (keyCode_small hb) ?_
          simp only [hr, if_true, isValue_is, Option.bind_some, hv]
          refine Ev.bind hI ?_
          simp only [impl_limited.f, h13, if_false, Option.bind_some]
          exact Ev.now _
theorem FnExactPut : laws_FnExactPut.Pure := by
  intro l0 a1 a2 w0 w1 w2
  refine Ev.rounds ?_
  unfold laws_FnExactPut.f
  by_cases hn1 : (a1.size : Int) > 1048576
  · simp only [hn1, if_true]
    exact Ev.now _
  simp only [hn1, if_false]
  obtain ⟨r, hr, hrl, hrs⟩ := szEntryS_ev l0 w0.1 w0.2 1048576 (by omega) (by omega)
  refine Ev.bind hr ?_
  by_cases hn : r < 0
  · simp only [hn, if_true]
    exact Ev.now _
  simp only [hn, if_false]
  have hl := hrs (by omega)
  have ht := toEntryS_ev l0 hl
  have hl2 : (l0.map cvEntry).length ≤ 1048576 := by simpa using hl
  obtain ⟨res, code, hs, hi, hres⟩ := put_both (l0.map cvEntry) a1 a2 hl2
  refine Ev.bind ht (Ev.bind hs (Ev.bind ht (Ev.bind hi (Ev.bind (eqEntryS_ev res hres) ?_))))
  simp only [if_true, bne_self_eq_false]
  refine Ev.succ ?_
  simp only [laws_FnExactPut.j0, Bool.false_eq_true, if_false]
  refine Ev.bind ht (Ev.bind (eqEntryS_ev _ hl2) ?_)
  simp only [if_true]
  obtain ⟨la, _, hmA, _⟩ := markEntryS_ev (l0.map cvEntry) 1 hl2 (by omega) (by omega)
  refine Ev.bind hmA ?_
  have n1 : ¬ (1 + 2 * ((l0.map cvEntry).length : Int) < 0) := by omega
  simp only [n1, if_false]
  refine Ev.bind (eqEntryS_ev res hres) ?_
  simp only [if_true, bne_self_eq_false]
  refine Ev.succ ?_
  simp only [laws_FnExactPut.j1, Bool.false_eq_true, if_false]
  obtain ⟨lr, _, hmR, hhR⟩ := markEntryS_ev res 1 hres (by omega) (by omega)
  have n2 : ¬ (1 + 2 * (res.length : Int) < 0) := by omega
  refine Ev.bind hmR (Ev.bind hhR ?_)
  simp only [n2, if_false, if_true]
  refine Ev.bind ht (Ev.bind hi (Ev.bind (eqEntryS_ev res hres) ?_))
  simp only [if_true, bne_self_eq_false]
  refine Ev.succ ?_
  simp only [laws_FnExactPut.j2, Bool.false_eq_true, if_false]
  refine Ev.bind hhR ?_
  simp only [n2, if_false, if_true]
  exact Ev.now _
end Go.Proofs.Ytcpljigliklgcaa.Pure
end
