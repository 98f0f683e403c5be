/- For every input the law FnExactEventsOK returns true: the program's EventsOK returns what the reference's returns. -/
import Derived.Test.YtmkgkinhbahlmaaQarowFnExactEventsOK
import Derived.Test.YtmkgkinhbahlmaaLibEventsOK
import Derived.Test.YtmkgkinhbahlmaaLibCEvent
namespace Go.Proofs.Ytmkgkinhbahlmaa.Pure
open Go.RowKit Go.Proofs.Ytmkgkinhbahlmaa.Q Go.Proofs.YtmkgkinhbahlmaaW.PrintWords Go.Proofs.YtmkgkinhbahlmaaW.PrintLast
theorem FnExactEventsOK : laws_FnExactEventsOK.Pure := by
  intro l0 w0
  refine Ev.rounds ?_
  unfold laws_FnExactEventsOK.f
  obtain ⟨r, hr, hrl, hrs⟩ := szEventS_ev l0 w0.1 w0.2 1048576 (by omega) (by omega)
  refine Ev.bind hr ?_
  by_cases hn : r < 0
  · simp only [hn, if_true]
    exact Ev.now _
  · simp only [hn, if_false]
    have hl := hrs (by omega)
    have ht := toEventS_ev l0 hl
    have hl2 : (l0.map cvEvent).length ≤ 1048576 := by simpa using hl
    refine Ev.bind ht (Ev.bind (a := eventsB (l0.map cvEvent) && decide (((l0.map cvEvent).length : Int) ≤ 4096)) (Ev.pure_ ?_) (Ev.bind ht (Ev.bind (eventsOK_ev _ hl2) ?_)))
    · unfold spec_EventsOK.f
      by_cases h : ((l0.map cvEvent).length : Int) > 4096
      · rw [if_pos h, decide_eq_false (by omega), Bool.and_false]
      · rw [if_neg h, decide_eq_true (by omega), Bool.and_true]
        rfl
    · simp only [bne_self_eq_false, Bool.false_eq_true, if_false]
      refine Ev.bind ht (Ev.bind (eqEventS_ev _ hl2) ?_)
      simp only [if_true]
      exact Ev.now _
end Go.Proofs.Ytmkgkinhbahlmaa.Pure
