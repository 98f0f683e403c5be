/- Functions of the given program, each as a plain function on numbers and lists, with the proof that its call does just what that function says; no conditions but those typed. -/
import Derived.Test.YtmkgkinhbahlmaaQ0
import Derived.Test.YtmkgkinhbahlmaaQaord
import Derived.Test.YtmkgkinhbahlmaaQawords
namespace Go.Proofs.Ytmkgkinhbahlmaa.Q
open Go.RowKit Go.Proofs.YtmkgkinhbahlmaaW.PrintWords Go.Proofs.YtmkgkinhbahlmaaW.PrintLast Go.Proofs.YtmkgkinhbahlmaaW.PrintMore
attribute [local go_sem] max2_int min2_int max_two min_two max_three min_three max_four min_four   -- for this text's walks alone
set_option linter.unusedVariables false
set_option linter.unusedSimpArgs false

attribute [local go_sem] bin_leq bin_gtr bin_geq
/-! ### aux events -/
def evB (e : S140) : Bool := inB e.f0 1 1000000 && inB e.f1 0 60
/-- Place j of events is fine. -/
def evAt (m : List S140) (j : Nat) : Bool := evB (rd_T140 m (j : Int)) && (j == 0 || (decide ((rd_T140 m ((j : Int) - 1)).f0 < (rd_T140 m (j : Int)).f0) && ((rd_T140 m (j : Int)).f2 || decide ((rd_T140 m (j : Int)).f0 = (rd_T140 m ((j : Int) - 1)).f0 + 1))))
def eventsB (m : List S140) : Bool := allR (evAt m) m.length

end Go.Proofs.Ytmkgkinhbahlmaa.Q
