/- Functions of the given program, each as a plain function on numbers and lists, with the proof that its call does just what that function says; no conditions but those typed. -/
import Derived.Test.YthmijfgcajhicaaQ0
import Derived.Test.YthmijfgcajhicaaQaord
import Derived.Test.YthmijfgcajhicaaQanames
namespace Go.Proofs.Ythmijfgcajhicaa.Q
open Go.RowKit Go.Proofs.YthmijfgcajhicaaW.PrintWords Go.Proofs.YthmijfgcajhicaaW.PrintLast Go.Proofs.YthmijfgcajhicaaW.PrintMore
attribute [local go_sem] max2_int min2_int max_two min_two max_three min_three max_four min_four   -- for this text's walks alone
set_option linter.unusedVariables false
set_option linter.unusedSimpArgs false

attribute [local go_sem] bin_leq bin_gtr bin_geq
/-! ### aux sums -/
/-- The sum of bytes, from n on. -/
def sumL (n : Int) (l : List Int) : Int := l.foldl (fun n c => (31 * n + c + 1) % 1000003) n
theorem sumL_cons (n c : Int) (l : List Int) : sumL n (c :: l) = sumL ((31 * n + c + 1) % 1000003) l := rfl
theorem bytesL_range (s : ByteArray) (j : Nat) (h : j < (bytesL s).length) : 0 ≤ (bytesL s)[j] ∧ (bytesL s)[j] ≤ 255 := by
  have e : (bytesL s)[j] = ((s.data.toList[j]'(by simpa [bytesL] using h)).toNat : Int) := by simp [bytesL]
  rw [e]
  have := (s.data.toList[j]'(by simpa [bytesL] using h)).toNat_lt
  omega

end Go.Proofs.Ythmijfgcajhicaa.Q
