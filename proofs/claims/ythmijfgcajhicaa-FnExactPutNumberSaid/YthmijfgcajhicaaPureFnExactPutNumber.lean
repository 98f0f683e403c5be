/- For every input the law FnExactPutNumber returns true: the program's PutNumber returns what the reference's returns. -/
import Derived.Test.YthmijfgcajhicaaQf7
import Derived.Test.YthmijfgcajhicaaLibNumber
namespace Go.Proofs.Ythmijfgcajhicaa.Pure
open Go.RowKit Go.Proofs.Ythmijfgcajhicaa.Q Go.Proofs.YthmijfgcajhicaaW.PrintWords Go.Proofs.YthmijfgcajhicaaW.PrintLast
theorem FnExactPutNumber : laws_FnExactPutNumber.Pure := by
  intro a0 _
  refine Ev.rounds ?_
  unfold laws_FnExactPutNumber.f spec_PutNumber.f impl_PutNumber.f spec_l01In.f impl_within.f
  by_cases h0 : 0 ≤ a0
  · by_cases h1 : a0 ≤ 4000000
    · simp only [h0, h1, if_true, decide_true, Option.bind_some]
      refine Ev.bind (Ev.bind (l11Number_ev a0 h0 (by omega)) (Ev.now _)) ?_
      refine Ev.bind (Ev.bind (putNumber_ev a0 h0 (by omega)) (Ev.now _)) ?_
      simp only [if_true]
      exact Ev.now _
    · simp only [h0, h1, if_true, decide_false, Option.bind_some, Bool.false_eq_true, if_false]
      exact Ev.now _
  · simp only [h0, if_false, Option.bind_some, Bool.false_eq_true]
    exact Ev.now _
end Go.Proofs.Ythmijfgcajhicaa.Pure
