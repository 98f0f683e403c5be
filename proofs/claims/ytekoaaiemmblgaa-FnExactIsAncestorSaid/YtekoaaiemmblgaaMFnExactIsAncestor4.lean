/- Parts of the proof of the law FnExactIsAncestor, joined into one text. -/
import Derived.Test.YtekoaaiemmblgaaMFnExactIsAncestor3
section
namespace Go.Proofs.Ytekoaaiemmblgaa.Pure
open Go.RowKit Go.Proofs.Ytekoaaiemmblgaa.Q Go.Proofs.YtekoaaiemmblgaaW.PrintWords Go.Proofs.YtekoaaiemmblgaaW.PrintLast
set_option linter.unusedVariables false
set_option linter.unusedSimpArgs false
theorem isAnc_both (st : List S78) (a b : Int) (hl : st.length ≤ 1048576) (hf : ∀ x, x ∈ st → x.f1.length ≤ 1048576) : ∃ r c, Ev (fun k => spec_IsAncestor.f k st a b) (r, c) ∧ Ev (fun k => impl_IsAncestor.f k st a b) (r, c) := by
  have hI := idCode_ev st [a, b] hl hf
  have hS := l03Ask_ev st [a, b] (by simp)
  unfold spec_IsAncestor.f impl_IsAncestor.f
  by_cases h1 : (st.length : Int) > 4096
  · rw [askC_long h1] at hI
    exact ⟨false, 2, by simp only [h1, if_true]; exact Ev.now _, Ev.bind hI (Ev.now _)⟩
  simp only [h1, if_false]
  by_cases h0 : askC st [a, b] = 0
  · obtain ⟨hs, hx⟩ := askC_zero h0
    have ha := hx a (by simp)
    have hb := hx b (by simp)
    obtain ⟨i, rfl⟩ : ∃ i : Nat, a = (i : Int) := ⟨a.toNat, by omega⟩
    obtain ⟨j, rfl⟩ : ∃ j : Nat, b = (j : Int) := ⟨b.toNat, by omega⟩
    rw [h0] at hI hS
    have c1 : (i : Int) < ((reachL st j).length : Int) := by rw [reachL_len]; omega
    refine ⟨(reachL st j).getD i false, 0, Ev.bind hS ?_, Ev.bind hI ?_⟩
    · simp only [if_true]
      refine Ev.bind (reach_ev st hs j (by omega)) ?_
      simp only [Int.natCast_nonneg, if_true, c1, rdB]
      exact Ev.now _
    · simp only [if_true]
      refine Ev.bind (ancestors_ev st hs j (by omega)) ?_
      simp only [Int.natCast_nonneg, if_true, c1, rdB]
      exact Ev.now _
  · exact ⟨false, askC st [a, b], Ev.bind hS (by simp only [h0, if_false]; exact Ev.now _), Ev.bind hI (by simp only [h0, if_false]; exact Ev.now _)⟩
theorem FnExactIsAncestor : laws_FnExactIsAncestor.Pure := by
  intro l0 a1 a2 w0 w1 w2
  refine Ev.rounds ?_
  unfold laws_FnExactIsAncestor.f
  obtain ⟨r, hr, hrl, hrs⟩ := szCommitS_ev l0 w0.1 w0.2 1048576 (by omega) (by omega)
  refine Ev.bind hr ?_
  by_cases hn : r < 0
  · simp only [hn, if_true]
    exact Ev.now _
  simp only [hn, if_false]
  obtain ⟨hl, hf⟩ := hrs (by omega)
  have ht := toCommitS_ev l0 hl hf
  have hf2 := fit_cv hf
  have hl2 : (l0.map cvCommit).length ≤ 1048576 := by simpa using hl
  obtain ⟨q, c, hs, hi⟩ := isAnc_both (l0.map cvCommit) a1 a2 hl2 (fun x hx => (hf2 x hx).2)
  refine Ev.bind ht (Ev.bind hs (Ev.bind ht (Ev.bind hi ?_)))
  simp only [bne_self_eq_false, Bool.false_eq_true, if_false]
  refine Ev.succ ?_
  simp only [laws_FnExactIsAncestor.j0, Bool.false_eq_true, if_false]
  refine Ev.bind ht (Ev.bind (eqCommitS_ev _ hl2 hf2) ?_)
  simp only [if_true]
  exact Ev.now _
end Go.Proofs.Ytekoaaiemmblgaa.Pure
end
