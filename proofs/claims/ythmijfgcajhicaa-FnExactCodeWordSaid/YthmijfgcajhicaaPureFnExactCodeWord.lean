/- For every input the law FnExactCodeWord returns true: the program's CodeWord returns what the reference's returns. -/
import Derived.Test.YthmijfgcajhicaaQf4
namespace Go.Proofs.Ythmijfgcajhicaa.Pure
open Go.RowKit Go.Proofs.Ythmijfgcajhicaa.Q Go.Proofs.YthmijfgcajhicaaW.PrintWords Go.Proofs.YthmijfgcajhicaaW.PrintLast
theorem FnExactCodeWord : laws_FnExactCodeWord.Pure := by
  intro a0 _
  unfold laws_FnExactCodeWord.f spec_CodeWord.f impl_CodeWord.f impl_isCode.f impl_within.f impl_codeWords.f
  simp only [Option.bind_some, List.length_cons, List.length_nil]
  by_cases h0 : 0 ≤ a0
  · by_cases h1 : a0 ≤ 18
    · rw [if_neg (by omega), if_neg (by omega), if_pos h0, if_pos (by omega), if_pos h0, decide_eq_true h1]
      simp only [Option.bind_some, if_true]
    · rw [if_neg (by omega), if_pos (by omega), if_pos h0, decide_eq_false h1]
      simp
  · rw [if_pos (by omega), if_neg h0]
    simp
end Go.Proofs.Ythmijfgcajhicaa.Pure
