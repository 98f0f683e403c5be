/- The program's EventsOK, as plain Lean: it answers what the reference's answers. -/
import Derived.Test.YtmkgkinhbahlmaaQf28
import Derived.Test.YtmkgkinhbahlmaaQaevents
import Derived.Test.YtmkgkinhbahlmaaLibLoops
namespace Go.Proofs.Ytmkgkinhbahlmaa.Q
open Go.RowKit Go.Proofs.YtmkgkinhbahlmaaW.PrintWords Go.Proofs.YtmkgkinhbahlmaaW.PrintLast
set_option linter.unusedVariables false
theorem within_ev (a b c : Int) : impl_within.f a b c = some (inB a b c) := by
  unfold impl_within.f inB
  by_cases h : b ≤ a <;> simp [h]
theorem eventsOK_ev (l : List S140) (hlen : l.length ≤ 1048576) : Ev (fun k => impl_EventsOK.f k l) (eventsB l && decide ((l.length : Int) ≤ 4096)) := by
  refine ev_all_loop (L := fun k i => impl_EventsOK.l0 k l l (l.length : Int) i) (p := evAt l) ?_ ?_ ?_
  · intro i hi hb hp
    refine ⟨2, 0, fun k => ?_⟩
    have c1 : (i : Int) < (l.length : Int) := by omega
    have c2 : (0 : Int) ≤ (i : Int) := by omega
    simp only [evAt, evB, Bool.and_eq_true, Bool.or_eq_true, beq_iff_eq, decide_eq_true_eq] at hp
    obtain ⟨⟨h1, h2⟩, h3⟩ := hp
    simp only [impl_EventsOK.l0, impl_EventsOK.j1, within_ev, h1, h2, c1, c2, if_true, Option.bind_some, Bool.not_true, Bool.false_eq_true, if_false, wrap_i (show i < 4611686018427387904 by omega), Nat.add_zero]
    rcases Nat.eq_zero_or_pos i with h0 | h0
    · subst h0
      simp
    · have c3 : (i : Int) > 0 := by omega
      have w1 := wrap_1 c2 (by omega)
      have c4 : (0 : Int) ≤ (i : Int) - 1 := by omega
      have c5 : (i : Int) - 1 < (l.length : Int) := by omega
      have hq := hb (i - 1) (by omega)
      simp only [evAt, evB, inB, Bool.and_eq_true, decide_eq_true_eq] at hq
      have e : ((i - 1 : Nat) : Int) = (i : Int) - 1 := by omega
      rw [e] at hq
      have w2 := wrap_2 (i := (rd_T140 l ((i : Int) - 1)).f0) (by omega) (by omega)
      simp only [c3, w1, c4, c5, w2, if_true]
      rcases h3 with h3 | ⟨h3, h4⟩
      · omega
      · rw [if_neg (by omega)]
        rcases h4 with h4 | h4
        · rw [h4]; simp
        · rw [if_neg (by omega)]
  · intro i hi hb hp
    refine ⟨2, fun k => ?_⟩
    have c1 : (i : Int) < (l.length : Int) := by omega
    have c2 : (0 : Int) ≤ (i : Int) := by omega
    simp only [impl_EventsOK.l0, impl_EventsOK.j1, within_ev, c1, c2, if_true, Option.bind_some]
    cases h1 : inB (rd_T140 l (i : Int)).f0 1 1000000 with
    | false => simp
    | true =>
      cases h2 : inB (rd_T140 l (i : Int)).f1 0 60 with
      | false => simp
      | true =>
        simp only [evAt, evB, h1, h2, Bool.true_and] at hp
        simp only [if_true, Bool.not_true, Bool.false_eq_true, if_false]
        rcases Nat.eq_zero_or_pos i with h0 | h0
        · subst h0
          simp at hp
        · have c3 : (i : Int) > 0 := by omega
          have w1 := wrap_1 c2 (by omega)
          have c4 : (0 : Int) ≤ (i : Int) - 1 := by omega
          have c5 : (i : Int) - 1 < (l.length : Int) := by omega
          have hq := hb (i - 1) (by omega)
          simp only [evAt, evB, inB, Bool.and_eq_true, decide_eq_true_eq] at hq
          have e : ((i - 1 : Nat) : Int) = (i : Int) - 1 := by omega
          rw [e] at hq
          have w2 := wrap_2 (i := (rd_T140 l ((i : Int) - 1)).f0) (by omega) (by omega)
          have z : (i == 0) = false := by simp; omega
          simp only [z, Bool.false_or, Bool.and_eq_false_iff, decide_eq_false_iff_not, Bool.or_eq_false_iff] at hp
          simp only [c3, w1, c4, c5, w2, if_true]
          by_cases h3 : (rd_T140 l (i : Int)).f0 ≤ (rd_T140 l ((i : Int) - 1)).f0
          · rw [if_pos h3]
          · rw [if_neg h3]
            rcases hp with hp | ⟨hp, hp2⟩
            · omega
            · rw [if_pos (by omega), hp]; simp
  · refine Ev.step (f := fun _ => some (decide ((l.length : Int) ≤ 4096))) (fun k => ?_) (Ev.now _)
    simp only [impl_EventsOK.l0]
    rw [if_neg (by omega)]
    rfl
end Go.Proofs.Ytmkgkinhbahlmaa.Q
