/- Functions of the given program, each as a plain function on numbers and lists, with the proof that its call does just what that function says; no conditions but those typed. -/
import Derived.Test.YtmkgkinhbahlmaaQ0
import Derived.Test.YtmkgkinhbahlmaaQaord
import Derived.Test.YtmkgkinhbahlmaaQf4
import Derived.Test.YtmkgkinhbahlmaaQaopen142
namespace Go.Proofs.Ytmkgkinhbahlmaa.Q
open Go.RowKit Go.Proofs.YtmkgkinhbahlmaaW.PrintWords Go.Proofs.YtmkgkinhbahlmaaW.PrintLast Go.Proofs.YtmkgkinhbahlmaaW.PrintMore
attribute [local go_sem] max2_int min2_int max_two min_two max_three min_three max_four min_four   -- for this text's walks alone
set_option linter.unusedVariables false
set_option linter.unusedSimpArgs false

attribute [local go_sem] bin_leq bin_gtr bin_geq
/-! ### aux rowFnExactEventsOK -/
def laws_FnExactEventsOK.Pure : Prop := ∀ (l0 : List (S142)), (fun l => l.length ≤ 9223372036854775807 ∧ ∀ x, x ∈ l → good142 x) l0 → ∃ k, laws_FnExactEventsOK.f k l0 = some true
theorem laws_FnExactEventsOK.walk (P : laws_FnExactEventsOK.Pure) (A0 : Option Addr) (c0 : Nat) (l0 : List (S142)) (w : World) (w0 : (fun l => l.length ≤ 9223372036854775807 ∧ ∀ x, x ∈ l → good142 x) l0) (hr0 : Kd.C k142 w A0 l0.length l0) (hc0 : l0.length ≤ c0) :
    Calls Try.prog 4 #[.slice A0 l0.length c0] w fun e w' => e = .returned (.bool true) ∧ Below w.heap.size w w' := by
  obtain ⟨k, hk⟩ := P l0 w0
  exact (laws_FnExactEventsOK.calls k A0 c0 l0 true w hr0 hc0 hk).mono fun e w' h => ⟨h.1, h.2⟩

end Go.Proofs.Ytmkgkinhbahlmaa.Q
