/- Functions of the given program, each as a plain function on numbers and lists, with the proof that its call does just what that function says; no conditions but those typed. -/
import Derived.Test.YtmkgkinhbahlmaaQ0
import Derived.Test.YtmkgkinhbahlmaaQaord
import Derived.Test.YtmkgkinhbahlmaaQawords
import Derived.Test.YtmkgkinhbahlmaaQaevents
namespace Go.Proofs.Ytmkgkinhbahlmaa.Q
open Go.RowKit Go.Proofs.YtmkgkinhbahlmaaW.PrintWords Go.Proofs.YtmkgkinhbahlmaaW.PrintLast Go.Proofs.YtmkgkinhbahlmaaW.PrintMore
attribute [local go_sem] max2_int min2_int max_two min_two max_three min_three max_four min_four   -- for this text's walks alone
set_option linter.unusedVariables false
set_option linter.unusedSimpArgs false

attribute [local go_sem] bin_leq bin_gtr bin_geq
/-! ### spec_l06Events: function 109, by hand -/
def spec_l06Events.f (l0 : List (S140)) : Option (Bool) := some (eventsB l0)
set_option maxHeartbeats 8000000 in
set_option maxRecDepth 100000 in
theorem spec_l06Events.calls (A0 : Option Addr) (c0 : Nat) (l0 : List (S140)) (r : Bool) (w : World) (hr0 : Kd.C k140 w A0 l0.length l0) (hc0 : l0.length ≤ c0) (h : spec_l06Events.f l0 = some r) :
    Calls Try.prog 109 #[.slice A0 l0.length c0] w fun e w' => e = .returned (.bool r) ∧ Below w.heap.size w w' := by
  obtain rfl := Option.some.inj h
  clear h
  have HM : l0.length ≤ 9223372036854775807 := hr0.2.1
  have HR0 := Aside0.mk hr0
  clear hr0 hc0
  have RT := Aside0.mk (show allR (evAt l0) l0.length = eventsB l0 from rfl)
  go_enter Try.func109, Try.ntmps109
  go_wp2
  go_loopg [3] l0.length (fun gk v3 w' => ∃ x : Int, v3 = .int .i64 x ∧ 0 ≤ x ∧ x ≤ l0.length ∧ l0.length - x.toNat ≤ gk ∧ Aside0 (∀ j, j < x.toNat → evAt l0 j = true) ∧ Aside0 (Below w.heap.size w w'))
  case atStart => exact ⟨0, rfl, by omega, by omega, by omega, ⟨fun j hj => absurd hj (by simp)⟩, ⟨Below.refl _ _⟩⟩
  case round =>
    obtain ⟨x, rfl, h0, h1, hg, HA, HB⟩ := hrel
    by_cases hlt : x < (l0.length : Int)
    · have HRW := Aside0.mk (Kd.C_below HR0.out HB.out)
      obtain ⟨ad, e1, hx0, hx1, hx2⟩ := at_T140 HRW.out x h0 hlt
      cases e1
      have ex : ((x.toNat : Nat) : Int) = x := by omega
      have E0 := Aside0.mk (show evAt l0 x.toNat = (evB (rd_T140 l0 x) && (x.toNat == 0 || (decide ((rd_T140 l0 (x - 1)).f0 < (rd_T140 l0 x).f0) && ((rd_T140 l0 x).f2 || decide ((rd_T140 l0 x).f0 = (rd_T140 l0 (x - 1)).f0 + 1))))) by unfold evAt; rw [ex])
      clear ex
      cases hV : inB (rd_T140 l0 x).f0 1 1000000 with
      | false =>
        have HV := Aside0.mk hV
        clear hV
        have E1 := Aside0.mk (show eventsB l0 = false by rw [← RT.out]; exact allR_false (j := x.toNat) (by omega) (by rw [E0.out, evB, HV.out]; simp))
        go_wp2
        go_quiet ((go_at_call 104; exact quiet_ (l01In_call _ _ _ _ _ HV.out)))
        go_wp2
        go_ret
        exact ⟨by rw [E1.out]; rfl, (by repeat (first | (with_reducible first | exact HB.out | apply below_alloc | apply pw_below_drewN | apply below_drew1) | exact HB.out))⟩
      | true =>
        have HV := Aside0.mk hV
        clear hV
        cases hW : inB (rd_T140 l0 x).f1 0 60 with
        | false =>
          have HW := Aside0.mk hW
          clear hW
          have E1 := Aside0.mk (show eventsB l0 = false by rw [← RT.out]; exact allR_false (j := x.toNat) (by omega) (by rw [E0.out, evB, HV.out, HW.out]; simp))
          go_wp2
          go_quiet ((first | (go_at_call 104; exact quiet_ (l01In_call _ _ _ _ _ HV.out)) | (go_at_call 104; exact quiet_ (l01In_call _ _ _ _ _ HW.out))))
          go_wp2
          go_ret
          exact ⟨by rw [E1.out]; rfl, (by repeat (first | (with_reducible first | exact HB.out | apply below_alloc | apply pw_below_drewN | apply below_drew1) | exact HB.out))⟩
        | true =>
          have HW := Aside0.mk hW
          clear hW
          by_cases hpos : 0 < x
          · obtain ⟨ad', e2, hz0, hz1, hz2⟩ := at_T140 HRW.out (x - 1) (by omega) (by omega)
            cases e2
            rw [show (x - 1).toNat = x.toNat - 1 by omega] at hz0
            have hn := World.block_lt_of_cell? wr _ hz0
            clear hz1 hz2
            have h2 := Aside0.mk (show (x.toNat == 0) = false by simp; omega)
            have hpv := Aside0.mk (show 1 ≤ (rd_T140 l0 (x - 1)).f0 ∧ (rd_T140 l0 (x - 1)).f0 ≤ 1000000 by
              have hq := HA.out (x.toNat - 1) (by omega)
              have ex : ((x.toNat - 1 : Nat) : Int) = x - 1 := by omega
              simp only [evAt, evB, inB, ex, Bool.and_eq_true, decide_eq_true_eq] at hq
              exact hq.1.1)
            obtain ⟨pv, hpe⟩ : ∃ pv, pv = (rd_T140 l0 (x - 1)).f0 := ⟨_, rfl⟩
            rw [← hpe] at hz0 hpv E0
            clear hpe
            obtain ⟨cv, hce⟩ : ∃ cv, cv = (rd_T140 l0 x).f0 := ⟨_, rfl⟩
            obtain ⟨lg, hle⟩ : ∃ lg, lg = (rd_T140 l0 x).f2 := ⟨_, rfl⟩
            rw [← hce] at hx0 HV
            rw [← hle] at hx2
            have E00 := E0.out
            rw [evB, ← hce, ← hle] at E00
            replace E0 := Aside0.mk E00
            clear E00 hce hle
            by_cases hS : cv ≤ pv
            · have HS := Aside0.mk (show decide (pv < cv) = false from decide_eq_false (by omega))
              have E1 := Aside0.mk (show eventsB l0 = false by rw [← RT.out]; exact allR_false (j := x.toNat) (by omega) (by rw [E0.out, HV.out, HW.out, HS.out, h2.out]; simp))
              have hS1 : decide (cv ≤ pv) = true := decide_eq_true hS
              clear hS
              have p1 : 0 ≤ x - 1 := by omega
              have p2 : x - 1 < (l0.length : Int) := by omega
              have p3 : 1 ≤ x := by omega
              have hwr2 : IntKind.i64.wrap (pv + 1) = pv + 1 := IntWalk.i64_in _ (by have := hpv.out; omega)
              have hwr : IntKind.i64.wrap (x - 1) = x - 1 := IntWalk.i64_in _ (by omega)
              go_wp2
              go_quiet ((first | (go_at_call 104; exact quiet_ (l01In_call _ _ _ _ _ HV.out)) | (go_at_call 104; exact quiet_ (l01In_call _ _ _ _ _ HW.out))))
              clear hwr hwr2
              go_wp2
              go_ret
              exact ⟨by rw [E1.out]; rfl, (by repeat (first | (with_reducible first | exact HB.out | apply below_alloc | apply pw_below_drewN | apply below_drew1) | exact HB.out))⟩
            · have HS := Aside0.mk (show decide (pv < cv) = true from decide_eq_true (by omega))
              have hS1 : decide (cv ≤ pv) = false := decide_eq_false hS
              clear hS
              cases lg with
              | true =>
                have E1 := Aside0.mk (show evAt l0 x.toNat = true by rw [E0.out, HV.out, HW.out, HS.out]; simp)
                have p1 : 0 ≤ x - 1 := by omega
                have p2 : x - 1 < (l0.length : Int) := by omega
                have p3 : 1 ≤ x := by omega
                have hwr2 : IntKind.i64.wrap (pv + 1) = pv + 1 := IntWalk.i64_in _ (by have := hpv.out; omega)
                have hwr : IntKind.i64.wrap (x - 1) = x - 1 := IntWalk.i64_in _ (by omega)
                go_wp2
                go_quiet ((first | (go_at_call 104; exact quiet_ (l01In_call _ _ _ _ _ HV.out)) | (go_at_call 104; exact quiet_ (l01In_call _ _ _ _ _ HW.out))))
                clear hwr hwr2
                go_wp2
                go_roundg (l0.length - (x.toNat + 1))
                case measure => omega
                case rel => exact ⟨x + 1, by go_num, by omega, by omega, by omega, ⟨fun j hj => by
                  by_cases e : j = x.toNat
                  · rw [e]; exact E1.out
                  · exact HA.out j (by omega)⟩, ⟨(by repeat (first | (with_reducible first | exact HB.out | apply below_alloc | apply pw_below_drewN | apply below_drew1) | exact HB.out))⟩⟩
              | false =>
                by_cases hq : cv = pv + 1
                · have HQ := Aside0.mk (show decide (cv = pv + 1) = true from decide_eq_true hq)
                  have hq1 : (cv != pv + 1) = false := bne_eq_false_iff_eq.mpr hq
                  clear hq
                  have E1 := Aside0.mk (show evAt l0 x.toNat = true by rw [E0.out, HV.out, HW.out, HS.out, HQ.out]; simp)
                  have p1 : 0 ≤ x - 1 := by omega
                  have p2 : x - 1 < (l0.length : Int) := by omega
                  have p3 : 1 ≤ x := by omega
                  have hwr2 : IntKind.i64.wrap (pv + 1) = pv + 1 := IntWalk.i64_in _ (by have := hpv.out; omega)
                  have hwr : IntKind.i64.wrap (x - 1) = x - 1 := IntWalk.i64_in _ (by omega)
                  go_wp2
                  go_quiet ((first | (go_at_call 104; exact quiet_ (l01In_call _ _ _ _ _ HV.out)) | (go_at_call 104; exact quiet_ (l01In_call _ _ _ _ _ HW.out))))
                  clear hwr hwr2
                  go_wp2
                  go_roundg (l0.length - (x.toNat + 1))
                  case measure => omega
                  case rel => exact ⟨x + 1, by go_num, by omega, by omega, by omega, ⟨fun j hj => by
                    by_cases e : j = x.toNat
                    · rw [e]; exact E1.out
                    · exact HA.out j (by omega)⟩, ⟨(by repeat (first | (with_reducible first | exact HB.out | apply below_alloc | apply pw_below_drewN | apply below_drew1) | exact HB.out))⟩⟩
                · have HQ := Aside0.mk (show decide (cv = pv + 1) = false from decide_eq_false hq)
                  have hq1 : (cv != pv + 1) = true := bne_iff_ne.mpr hq
                  clear hq
                  have E1 := Aside0.mk (show eventsB l0 = false by rw [← RT.out]; exact allR_false (j := x.toNat) (by omega) (by rw [E0.out, HV.out, HW.out, HS.out, HQ.out, h2.out]; simp))
                  have p1 : 0 ≤ x - 1 := by omega
                  have p2 : x - 1 < (l0.length : Int) := by omega
                  have p3 : 1 ≤ x := by omega
                  have hwr2 : IntKind.i64.wrap (pv + 1) = pv + 1 := IntWalk.i64_in _ (by have := hpv.out; omega)
                  have hwr : IntKind.i64.wrap (x - 1) = x - 1 := IntWalk.i64_in _ (by omega)
                  go_wp2
                  go_quiet ((first | (go_at_call 104; exact quiet_ (l01In_call _ _ _ _ _ HV.out)) | (go_at_call 104; exact quiet_ (l01In_call _ _ _ _ _ HW.out))))
                  clear hwr hwr2
                  go_wp2
                  go_ret
                  exact ⟨by rw [E1.out]; rfl, (by repeat (first | (with_reducible first | exact HB.out | apply below_alloc | apply pw_below_drewN | apply below_drew1) | exact HB.out))⟩
          · have h2 := Aside0.mk (show (x.toNat == 0) = true by simp; omega)
            have p0 : decide (0 < x) = false := decide_eq_false hpos
            have E1 := Aside0.mk (show evAt l0 x.toNat = true by rw [E0.out, evB, HV.out, HW.out, h2.out]; simp)
            go_wp2
            go_quiet ((first | (go_at_call 104; exact quiet_ (l01In_call _ _ _ _ _ HV.out)) | (go_at_call 104; exact quiet_ (l01In_call _ _ _ _ _ HW.out))))
            go_wp2
            go_roundg (l0.length - (x.toNat + 1))
            case measure => omega
            case rel => exact ⟨x + 1, by go_num, by omega, by omega, by omega, ⟨fun j hj => by
              by_cases e : j = x.toNat
              · rw [e]; exact E1.out
              · exact HA.out j (by omega)⟩, ⟨(by repeat (first | (with_reducible first | exact HB.out | apply below_alloc | apply pw_below_drewN | apply below_drew1) | exact HB.out))⟩⟩
    · have E1 := Aside0.mk (show eventsB l0 = true by rw [← RT.out]; exact allR_true (fun j hj => HA.out j (by omega)))
      obtain rfl : x = (l0.length : Int) := by omega
      go_wp2
      go_ret
      exact ⟨by rw [E1.out]; rfl, HB.out⟩

end Go.Proofs.Ytmkgkinhbahlmaa.Q
