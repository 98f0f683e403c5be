/- Parts of the proof of the law FnExactSameMoment, joined into one text. -/
import Derived.Test.YtcpljigliklgcaaMFnExactSameMoment5
section
namespace Go.Proofs.Ytcpljigliklgcaa.Q
open Go.RowKit Go.Proofs.YtcpljigliklgcaaW.PrintWords Go.Proofs.YtcpljigliklgcaaW.PrintLast Go.Proofs.YtcpljigliklgcaaW.PrintMore
attribute [local go_sem] max2_int min2_int max_two min_two max_three min_three max_four min_four   -- for this text's walks alone
set_option linter.unusedVariables false
set_option linter.unusedSimpArgs false
attribute [local go_sem] bin_leq bin_gtr bin_geq
def laws_eqStringS.l0 : Nat → List ByteArray → List ByteArray → Int → Option (Bool)
  | 0, _, _, _ => none
  | k + 1, x0, x1, x5 => if x5 < (x0.length : Int) then (if 0 ≤ x5 then (if x5 < (x1.length : Int) then (if (rdOf ByteArray.empty x0 x5).toList = (rdOf ByteArray.empty x1 x5).toList then (laws_eqStringS.l0 k x0 x1 (wrap64 (x5 + 1))) else (some false)) else (none)) else (none)) else (some true)
def laws_eqStringS.f (k : Nat) (l0 : List ByteArray) (l1 : List ByteArray) : Option (Bool) := if (l0.length : Int) = (l1.length : Int) then (laws_eqStringS.l0 k l0 l1 0) else (some false)
set_option maxHeartbeats 8000000 in
set_option maxRecDepth 100000 in
theorem laws_eqStringS.calls (k : Nat) (A0 : Option Addr) (c0 : Nat) (l0 : List ByteArray) (A1 : Option Addr) (c1 : Nat) (l1 : List ByteArray) (r : Bool) (w : World) (hr0 : Kd.C Kd.string w A0 l0.length l0) (hc0 : l0.length ≤ c0) (hr1 : Kd.C Kd.string w A1 l1.length l1) (hc1 : l1.length ≤ c1) (h : laws_eqStringS.f k l0 l1 = some r) :
    Calls Try.prog 200 #[.slice A0 l0.length c0, .slice A1 l1.length c1] w fun e w' => e = .returned (.bool r) ∧ Drawn0 w w' := by
  have HR0 := Aside0.mk hr0
  have HC0 := Aside0.mk hc0
  clear hr0 hc0
  have HR1 := Aside0.mk hr1
  have HC1 := Aside0.mk hc1
  clear hr1 hc1
  have H : (if (l0.length : Int) = (l1.length : Int) then (laws_eqStringS.l0 k l0 l1 0) else (some false)) = some r := h
  clear h
  by_cases c3 : (l0.length : Int) = (l1.length : Int)
  · rw [if_pos c3] at H
    have c3b0 : ((l0.length : Int) == (l1.length : Int)) = true := beq_iff_eq.mpr c3
    have c3b1 : ((l0.length : Int) != (l1.length : Int)) = false := bne_eq_false_iff_eq.mpr c3
    have c3b2 : (l0.length == l1.length) = true := by first | simpa using c3 | (simp at c3 ⊢; omega)
    clear c3
    have H' := Aside0.mk H
    clear H
    go_enter Try.func200, Try.ntmps200
    go_wp2
    repeat (go_quiet (fail); try go_wp2)
    go_loopg [5] k (fun kq v5 w' => ∃ (x5_1 : Int), v5 = .int .i64 x5_1 ∧ Aside0 (laws_eqStringS.l0 kq l0 l1 x5_1 = some r) ∧ Aside0 (kq ≤ k) ∧ Drawn0 w w')
    case atStart => exact ⟨(0), vE, H', ⟨Nat.le_refl _⟩, by repeat (first | exact Drawn0.refl _ | apply Drawn0.step)⟩
    case round =>
      clear H'
      try clear c1
      try clear c2
      try clear p2
      try clear c3
      try clear c3b0
      try clear c3b1
      try clear c3b2
      obtain ⟨x5_1, rfl, HA, HK1, ⟨m1, rfl⟩⟩ := hrel
      cases gk with
      | zero => exact absurd HA.out (by simp [laws_eqStringS.l0])
      | succ k1 =>
        have H := HA.out
        clear HA
        simp only [laws_eqStringS.l0] at H
        by_cases c4 : x5_1 < (l0.length : Int)
        · rw [if_pos c4] at H
          have c4b0 : decide (x5_1 < (l0.length : Int)) = true := decide_eq_true c4
          clear c4
          by_cases c5 : 0 ≤ x5_1
          · rw [if_pos c5] at H
            have c5b0 : decide (0 ≤ x5_1) = true := decide_eq_true c5
            clear c5
            by_cases c6 : x5_1 < (l1.length : Int)
            · rw [if_pos c6] at H
              have c6b0 : decide (x5_1 < (l1.length : Int)) = true := decide_eq_true c6
              clear c6
              by_cases c7 : (rdOf ByteArray.empty l0 x5_1).toList = (rdOf ByteArray.empty l1 x5_1).toList
              · rw [if_pos c7] at H
                have c7b0 : ((rdOf ByteArray.empty l0 x5_1).toList == (rdOf ByteArray.empty l1 x5_1).toList) = true := beq_iff_eq.mpr c7
                have c7b1 : ((rdOf ByteArray.empty l0 x5_1).toList != (rdOf ByteArray.empty l1 x5_1).toList) = false := bne_eq_false_iff_eq.mpr c7
                clear c7
                have H' := Aside0.mk H
                clear H
                have p957 : 0 ≤ (x5_1 : Int) := odt
                have q957 : x5_1 < (l0.length : Int) := odt
                obtain ⟨ad957, e957, hx957_0⟩ := Kd.at_string HR0.out x5_1 p957 q957
                cases e957
                replace p957 := eq_true p957
                replace q957 := eq_true q957
                have p958 : 0 ≤ (x5_1 : Int) := odt
                have q958 : x5_1 < (l1.length : Int) := odt
                obtain ⟨ad958, e958, hx958_0⟩ := Kd.at_string HR1.out x5_1 p958 q958
                cases e958
                replace p958 := eq_true p958
                replace q958 := eq_true q958
                go_wp2
                repeat (go_quiet (fail); try go_wp2)
                go_roundg k1
                case measure => have := HK1.out; omega
                case rel => exact ⟨(wrap64 (x5_1 + 1)), vE, H', ⟨by have := HK1.out; omega⟩, by repeat (first | exact Drawn0.refl _ | apply Drawn0.step)⟩
              · rw [if_neg c7] at H
                have c7b0 : ((rdOf ByteArray.empty l0 x5_1).toList == (rdOf ByteArray.empty l1 x5_1).toList) = false := beq_eq_false_iff_ne.mpr c7
                have c7b1 : ((rdOf ByteArray.empty l0 x5_1).toList != (rdOf ByteArray.empty l1 x5_1).toList) = true := bne_iff_ne.mpr c7
                obtain rfl := Option.some.inj H
                have p957 : 0 ≤ (x5_1 : Int) := odt
                have q957 : x5_1 < (l0.length : Int) := odt
                obtain ⟨ad957, e957, hx957_0⟩ := Kd.at_string HR0.out x5_1 p957 q957
                cases e957
                replace p957 := eq_true p957
                replace q957 := eq_true q957
                have p958 : 0 ≤ (x5_1 : Int) := odt
                have q958 : x5_1 < (l1.length : Int) := odt
                obtain ⟨ad958, e958, hx958_0⟩ := Kd.at_string HR1.out x5_1 p958 q958
                cases e958
                replace p958 := eq_true p958
                replace q958 := eq_true q958
                go_wp2
                repeat (go_quiet (fail); try go_wp2)
                go_ret
                exact ⟨by first | rfl | (simp; done) | (simp [*]; done), by repeat (first | exact Drawn0.refl _ | apply Drawn0.step)⟩
            · rw [if_neg c6] at H
              exact absurd H (by simp)
          · rw [if_neg c5] at H
            exact absurd H (by simp)
        · rw [if_neg c4] at H
          have c4b0 : decide (x5_1 < (l0.length : Int)) = false := decide_eq_false c4
          clear c4
          obtain rfl := Option.some.inj H
          go_wp2
          repeat (go_quiet (fail); try go_wp2)
          go_ret
          exact ⟨by first | rfl | (simp; done) | (simp [*]; done), by repeat (first | exact Drawn0.refl _ | apply Drawn0.step)⟩
  · rw [if_neg c3] at H
    have c3b0 : ((l0.length : Int) == (l1.length : Int)) = false := beq_eq_false_iff_ne.mpr c3
    have c3b1 : ((l0.length : Int) != (l1.length : Int)) = true := bne_iff_ne.mpr c3
    have c3b2 : (l0.length == l1.length) = false := by first | simpa using c3 | (simp at c3 ⊢; omega)
    obtain rfl := Option.some.inj H
    go_enter Try.func200, Try.ntmps200
    go_wp2
    repeat (go_quiet (fail); try go_wp2)
    go_ret
    exact ⟨by first | rfl | (simp; done) | (simp [*]; done), by repeat (first | exact Drawn0.refl _ | apply Drawn0.step)⟩
end Go.Proofs.Ytcpljigliklgcaa.Q
end

section
namespace Go.Proofs.Ytcpljigliklgcaa.Q
open Go.RowKit Go.Proofs.YtcpljigliklgcaaW.PrintWords Go.Proofs.YtcpljigliklgcaaW.PrintLast Go.Proofs.YtcpljigliklgcaaW.PrintMore
attribute [local go_sem] max2_int min2_int max_two min_two max_three min_three max_four min_four   -- for this text's walks alone
set_option linter.unusedVariables false
set_option linter.unusedSimpArgs false
attribute [local go_sem] bin_leq bin_gtr bin_geq
def laws_eqResult.f (k : Nat) (a0_0 : Int) (a0_1 : Int) (a0_2 : Int) (l0_3 : List ByteArray) (l0_4 : List (S51)) (a1_0 : Int) (a1_1 : Int) (a1_2 : Int) (l1_3 : List ByteArray) (l1_4 : List (S51)) : Option (Bool) := if a0_0 = a1_0 then (if a0_1 = a1_1 then (if a0_2 = a1_2 then ((laws_eqStringS.f k l0_3 l1_3).bind fun t961 => (if t961 = true then ((laws_eqEntryS.f k l0_4 l1_4).bind fun t962 => (if t962 = true then (some true) else (some false))) else (some false))) else (some false)) else (some false)) else (some false)
set_option maxHeartbeats 8000000 in
set_option maxRecDepth 100000 in
theorem laws_eqResult.calls (k : Nat) (a0_0 : Int) (a0_1 : Int) (a0_2 : Int) (A0_3 : Option Addr) (c0_3 : Nat) (l0_3 : List ByteArray) (A0_4 : Option Addr) (c0_4 : Nat) (l0_4 : List (S51)) (a1_0 : Int) (a1_1 : Int) (a1_2 : Int) (A1_3 : Option Addr) (c1_3 : Nat) (l1_3 : List ByteArray) (A1_4 : Option Addr) (c1_4 : Nat) (l1_4 : List (S51)) (r : Bool) (w : World) (hr0_3 : Kd.C Kd.string w A0_3 l0_3.length l0_3) (hc0_3 : l0_3.length ≤ c0_3) (hr0_4 : Kd.C k51 w A0_4 l0_4.length l0_4) (hc0_4 : l0_4.length ≤ c0_4) (hr1_3 : Kd.C Kd.string w A1_3 l1_3.length l1_3) (hc1_3 : l1_3.length ≤ c1_3) (hr1_4 : Kd.C k51 w A1_4 l1_4.length l1_4) (hc1_4 : l1_4.length ≤ c1_4) (h : laws_eqResult.f k a0_0 a0_1 a0_2 l0_3 l0_4 a1_0 a1_1 a1_2 l1_3 l1_4 = some r) :
    Calls Try.prog 134 #[.agg #[.int .i64 a0_0, .int .i64 a0_1, .int .i64 a0_2, .slice A0_3 l0_3.length c0_3, .slice A0_4 l0_4.length c0_4], .agg #[.int .i64 a1_0, .int .i64 a1_1, .int .i64 a1_2, .slice A1_3 l1_3.length c1_3, .slice A1_4 l1_4.length c1_4]] w fun e w' => e = .returned (.bool r) ∧ Below w.heap.size w w' := by
  have hu89 := Try.underlying89
  have HR0_3 := Aside0.mk hr0_3
  have HC0_3 := Aside0.mk hc0_3
  clear hr0_3 hc0_3
  have HR0_4 := Aside0.mk hr0_4
  have HC0_4 := Aside0.mk hc0_4
  clear hr0_4 hc0_4
  have HR1_3 := Aside0.mk hr1_3
  have HC1_3 := Aside0.mk hc1_3
  clear hr1_3 hc1_3
  have HR1_4 := Aside0.mk hr1_4
  have HC1_4 := Aside0.mk hc1_4
  clear hr1_4 hc1_4
  have HB := Aside0.mk (Below.refl w.heap.size w)
  have H : (if a0_0 = a1_0 then (if a0_1 = a1_1 then (if a0_2 = a1_2 then ((laws_eqStringS.f k l0_3 l1_3).bind fun t961 => (if t961 = true then ((laws_eqEntryS.f k l0_4 l1_4).bind fun t962 => (if t962 = true then (some true) else (some false))) else (some false))) else (some false)) else (some false)) else (some false)) = some r := h
  clear h
  by_cases c3 : a0_0 = a1_0
  · rw [if_pos c3] at H
    have c3b0 : (a0_0 == a1_0) = true := beq_iff_eq.mpr c3
    have c3b1 : (a0_0 != a1_0) = false := bne_eq_false_iff_eq.mpr c3
    clear c3
    by_cases c4 : a0_1 = a1_1
    · rw [if_pos c4] at H
      have c4b0 : (a0_1 == a1_1) = true := beq_iff_eq.mpr c4
      have c4b1 : (a0_1 != a1_1) = false := bne_eq_false_iff_eq.mpr c4
      clear c4
      by_cases c5 : a0_2 = a1_2
      · rw [if_pos c5] at H
        have c5b0 : (a0_2 == a1_2) = true := beq_iff_eq.mpr c5
        have c5b1 : (a0_2 != a1_2) = false := bne_eq_false_iff_eq.mpr c5
        clear c5
        replace H := Option.bind_eq_some_iff.mp H
        obtain ⟨t961, A60, H⟩ := H
        replace H : (if t961 = true then ((laws_eqEntryS.f k l0_4 l1_4).bind fun t962 => (if t962 = true then (some true) else (some false))) else (some false)) = some r := H
        have A6 := Aside0.mk A60
        clear A60
        by_cases c7 : t961 = true
        · subst c7
          have H1 : ((laws_eqEntryS.f k l0_4 l1_4).bind fun t962 => (if t962 = true then (some true) else (some false))) = some r := by rw [if_pos rfl] at H; exact H
          clear H
          have H := H1
          clear H1
          replace H := Option.bind_eq_some_iff.mp H
          obtain ⟨t962, A80, H⟩ := H
          replace H : (if t962 = true then (some true) else (some false)) = some r := H
          have A8 := Aside0.mk A80
          clear A80
          by_cases c9 : t962 = true
          · subst c9
            have H1 : (some true) = some r := by rw [if_pos rfl] at H; exact H
            clear H
            have H := H1
            clear H1
            obtain rfl := Option.some.inj H
            go_enter Try.func134, Try.ntmps134
            go_wp2_with (first | ((with_reducible refine gate_dst (N := 2) rfl ?_); refine bE (N := 2) (cs := #[.int .i64 a0_0, .int .i64 a0_1, .int .i64 a0_2, .slice A0_3 l0_3.length c0_3, .slice A0_4 l0_4.length c0_4]) (t := 89) ?_; intro gb959 hg w10 hbox hb; have n0_ := Aside0.mk (below_step (w := w) bW hb); have n1_ := Aside0.mk (hbox); have n2_ := Aside0.mk (gS (w := w) hg); have n3_ := n2_; clear HB; have HB := n0_; have BK959 := n1_; have GW959 := n2_; have GE959 := n3_; clear n0_ n1_ n2_ n3_; clear hb hbox hg) | ((with_reducible refine gate_dst (N := 3) rfl ?_); refine bE (N := 3) (cs := #[.int .i64 a1_0, .int .i64 a1_1, .int .i64 a1_2, .slice A1_3 l1_3.length c1_3, .slice A1_4 l1_4.length c1_4]) (t := 89) ?_; intro gb960 hg w11 hbox hb; have n0_ := Aside0.mk (kb BK959 hb); have n1_ := Aside0.mk (below_step (w := w) bW hb); have n2_ := Aside0.mk (hbox); have n3_ := Aside0.mk (gS (w := w) hg); have n4_ := n3_; have n5_ := Aside0.mk (nL BK959 hg); have n6_ := Aside0.mk (nG BK959 hg); clear BK959; clear HB; have BK959 := n0_; have HB := n1_; have BK960 := n2_; have GW960 := n3_; have GE960 := n4_; have NB959_960 := n5_; have NB960_959 := n6_; clear n0_ n1_ n2_ n3_ n4_ n5_ n6_; clear hb hbox hg; have hnb12 := NB959_960.out; have hnc12 := NB960_959.out; obtain ⟨hcz13_0, hcz13_1, hcz13_2, hcz13_3, hcz13_4⟩ := cz5 BK959; obtain ⟨hfz13_0, hfz13_1, hfz13_2, hfz13_3, hfz13_4⟩ := fz5 BK959; obtain ⟨hcz14_0, hcz14_1, hcz14_2, hcz14_3, hcz14_4⟩ := cz5 BK960; obtain ⟨hfz14_0, hfz14_1, hfz14_2, hfz14_3, hfz14_4⟩ := fz5 BK960) | ((with_reducible refine gate_callee (f := 200) rfl ?_); refine goesL_ (some 24) rfl rfl Try.func200 (by kernel_rfl) rfl #[.slice A0_3 l0_3.length c0_3, .slice A1_3 l1_3.length c1_3] rfl gA ?_; (with_reducible refine (laws_eqStringS.calls k _ _ l0_3 _ _ l1_3 true _ ?side1 ?side2 ?side3 ?side4 A6.out).mono ?_); (case side1 => exact cB HR0_3); (case side2 => exact HC0_3.out); (case side3 => exact cB HR1_3); (case side4 => exact HC1_3.out); rintro e w' ⟨rfl, ⟨nd, rfl⟩⟩; refine ⟨_, rfl, ?_⟩) | ((with_reducible refine gate_callee (f := 19) rfl ?_); refine goesL_ (some 30) rfl rfl Try.func19 (by kernel_rfl) rfl #[.slice A0_4 l0_4.length c0_4, .slice A1_4 l1_4.length c1_4] rfl gA ?_; (with_reducible refine (laws_eqEntryS.calls k _ _ l0_4 _ _ l1_4 true _ ?side1 ?side2 ?side3 ?side4 A8.out).mono ?_); (case side1 => exact cB HR0_4); (case side2 => exact HC0_4.out); (case side3 => exact cB HR1_4); (case side4 => exact HC1_4.out); rintro e w15 ⟨rfl, hb⟩; refine ⟨_, rfl, ?_⟩; have n0_ := Aside0.mk (kb BK959 hb); have n1_ := Aside0.mk (kb BK960 hb); have n2_ := Aside0.mk (below_step (w := w) bW hb); clear BK959; clear BK960; clear HB; have BK959 := n0_; have BK960 := n1_; have HB := n2_; clear n0_ n1_ n2_; (try clear hb); (try clear hb2); (try clear hk); (try clear hi)))
            go_ret
            exact ⟨rE, bW⟩
          · replace c9 := Bool.eq_false_iff.mpr c9
            subst c9
            have H1 : (some false) = some r := by rw [if_neg (show ¬ (false = true) by decide)] at H; exact H
            clear H
            have H := H1
            clear H1
            obtain rfl := Option.some.inj H
            go_enter Try.func134, Try.ntmps134
            go_wp2_with (first | ((with_reducible refine gate_dst (N := 2) rfl ?_); refine bE (N := 2) (cs := #[.int .i64 a0_0, .int .i64 a0_1, .int .i64 a0_2, .slice A0_3 l0_3.length c0_3, .slice A0_4 l0_4.length c0_4]) (t := 89) ?_; intro gb959 hg w16 hbox hb; have n0_ := Aside0.mk (below_step (w := w) bW hb); have n1_ := Aside0.mk (hbox); have n2_ := Aside0.mk (gS (w := w) hg); have n3_ := n2_; clear HB; have HB := n0_; have BK959 := n1_; have GW959 := n2_; have GE959 := n3_; clear n0_ n1_ n2_ n3_; clear hb hbox hg) | ((with_reducible refine gate_dst (N := 3) rfl ?_); refine bE (N := 3) (cs := #[.int .i64 a1_0, .int .i64 a1_1, .int .i64 a1_2, .slice A1_3 l1_3.length c1_3, .slice A1_4 l1_4.length c1_4]) (t := 89) ?_; intro gb960 hg w17 hbox hb; have n0_ := Aside0.mk (kb BK959 hb); have n1_ := Aside0.mk (below_step (w := w) bW hb); have n2_ := Aside0.mk (hbox); have n3_ := Aside0.mk (gS (w := w) hg); have n4_ := n3_; have n5_ := Aside0.mk (nL BK959 hg); have n6_ := Aside0.mk (nG BK959 hg); clear BK959; clear HB; have BK959 := n0_; have HB := n1_; have BK960 := n2_; have GW960 := n3_; have GE960 := n4_; have NB959_960 := n5_; have NB960_959 := n6_; clear n0_ n1_ n2_ n3_ n4_ n5_ n6_; clear hb hbox hg; have hnb18 := NB959_960.out; have hnc18 := NB960_959.out; obtain ⟨hcz19_0, hcz19_1, hcz19_2, hcz19_3, hcz19_4⟩ := cz5 BK959; obtain ⟨hfz19_0, hfz19_1, hfz19_2, hfz19_3, hfz19_4⟩ := fz5 BK959; obtain ⟨hcz20_0, hcz20_1, hcz20_2, hcz20_3, hcz20_4⟩ := cz5 BK960; obtain ⟨hfz20_0, hfz20_1, hfz20_2, hfz20_3, hfz20_4⟩ := fz5 BK960) | ((with_reducible refine gate_callee (f := 200) rfl ?_); refine goesL_ (some 24) rfl rfl Try.func200 (by kernel_rfl) rfl #[.slice A0_3 l0_3.length c0_3, .slice A1_3 l1_3.length c1_3] rfl gA ?_; (with_reducible refine (laws_eqStringS.calls k _ _ l0_3 _ _ l1_3 true _ ?side1 ?side2 ?side3 ?side4 A6.out).mono ?_); (case side1 => exact cB HR0_3); (case side2 => exact HC0_3.out); (case side3 => exact cB HR1_3); (case side4 => exact HC1_3.out); rintro e w' ⟨rfl, ⟨nd, rfl⟩⟩; refine ⟨_, rfl, ?_⟩) | ((with_reducible refine gate_callee (f := 19) rfl ?_); refine goesL_ (some 30) rfl rfl Try.func19 (by kernel_rfl) rfl #[.slice A0_4 l0_4.length c0_4, .slice A1_4 l1_4.length c1_4] rfl gA ?_; (with_reducible refine (laws_eqEntryS.calls k _ _ l0_4 _ _ l1_4 false _ ?side1 ?side2 ?side3 ?side4 A8.out).mono ?_); (case side1 => exact cB HR0_4); (case side2 => exact HC0_4.out); (case side3 => exact cB HR1_4); (case side4 => exact HC1_4.out); rintro e w21 ⟨rfl, hb⟩; refine ⟨_, rfl, ?_⟩; have n0_ := Aside0.mk (kb BK959 hb); have n1_ := Aside0.mk (kb BK960 hb); have n2_ := Aside0.mk (below_step (w := w) bW hb); clear BK959; clear BK960; clear HB; have BK959 := n0_; have BK960 := n1_; have HB := n2_; clear n0_ n1_ n2_; (try clear hb); (try clear hb2); (try clear hk); (try clear hi)))
            go_ret
            exact ⟨rE, bW⟩
        · replace c7 := Bool.eq_false_iff.mpr c7
          subst c7
          have H1 : (some false) = some r := by rw [if_neg (show ¬ (false = true) by decide)] at H; exact H
          clear H
          have H := H1
          clear H1
          obtain rfl := Option.some.inj H
          go_enter Try.func134, Try.ntmps134
          go_wp2_with (first | ((with_reducible refine gate_dst (N := 2) rfl ?_); refine bE (N := 2) (cs := #[.int .i64 a0_0, .int .i64 a0_1, .int .i64 a0_2, .slice A0_3 l0_3.length c0_3, .slice A0_4 l0_4.length c0_4]) (t := 89) ?_; intro gb959 hg w22 hbox hb; have n0_ := Aside0.mk (below_step (w := w) bW hb); have n1_ := Aside0.mk (hbox); have n2_ := Aside0.mk (gS (w := w) hg); have n3_ := n2_; clear HB; have HB := n0_; have BK959 := n1_; have GW959 := n2_; have GE959 := n3_; clear n0_ n1_ n2_ n3_; clear hb hbox hg) | ((with_reducible refine gate_dst (N := 3) rfl ?_); refine bE (N := 3) (cs := #[.int .i64 a1_0, .int .i64 a1_1, .int .i64 a1_2, .slice A1_3 l1_3.length c1_3, .slice A1_4 l1_4.length c1_4]) (t := 89) ?_; intro gb960 hg w23 hbox hb; have n0_ := Aside0.mk (kb BK959 hb); have n1_ := Aside0.mk (below_step (w := w) bW hb); have n2_ := Aside0.mk (hbox); have n3_ := Aside0.mk (gS (w := w) hg); have n4_ := n3_; have n5_ := Aside0.mk (nL BK959 hg); have n6_ := Aside0.mk (nG BK959 hg); clear BK959; clear HB; have BK959 := n0_; have HB := n1_; have BK960 := n2_; have GW960 := n3_; have GE960 := n4_; have NB959_960 := n5_; have NB960_959 := n6_; clear n0_ n1_ n2_ n3_ n4_ n5_ n6_; clear hb hbox hg; have hnb24 := NB959_960.out; have hnc24 := NB960_959.out; obtain ⟨hcz25_0, hcz25_1, hcz25_2, hcz25_3, hcz25_4⟩ := cz5 BK959; obtain ⟨hfz25_0, hfz25_1, hfz25_2, hfz25_3, hfz25_4⟩ := fz5 BK959; obtain ⟨hcz26_0, hcz26_1, hcz26_2, hcz26_3, hcz26_4⟩ := cz5 BK960; obtain ⟨hfz26_0, hfz26_1, hfz26_2, hfz26_3, hfz26_4⟩ := fz5 BK960) | ((with_reducible refine gate_callee (f := 200) rfl ?_); refine goesL_ (some 24) rfl rfl Try.func200 (by kernel_rfl) rfl #[.slice A0_3 l0_3.length c0_3, .slice A1_3 l1_3.length c1_3] rfl gA ?_; (with_reducible refine (laws_eqStringS.calls k _ _ l0_3 _ _ l1_3 false _ ?side1 ?side2 ?side3 ?side4 A6.out).mono ?_); (case side1 => exact cB HR0_3); (case side2 => exact HC0_3.out); (case side3 => exact cB HR1_3); (case side4 => exact HC1_3.out); rintro e w' ⟨rfl, ⟨nd, rfl⟩⟩; refine ⟨_, rfl, ?_⟩))
          go_ret
          exact ⟨rE, bW⟩
      · rw [if_neg c5] at H
        have c5b0 : (a0_2 == a1_2) = false := beq_eq_false_iff_ne.mpr c5
        have c5b1 : (a0_2 != a1_2) = true := bne_iff_ne.mpr c5
        obtain rfl := Option.some.inj H
        go_enter Try.func134, Try.ntmps134
        go_wp2_with (first | ((with_reducible refine gate_dst (N := 2) rfl ?_); refine bE (N := 2) (cs := #[.int .i64 a0_0, .int .i64 a0_1, .int .i64 a0_2, .slice A0_3 l0_3.length c0_3, .slice A0_4 l0_4.length c0_4]) (t := 89) ?_; intro gb959 hg w27 hbox hb; have n0_ := Aside0.mk (below_step (w := w) bW hb); have n1_ := Aside0.mk (hbox); have n2_ := Aside0.mk (gS (w := w) hg); have n3_ := n2_; clear HB; have HB := n0_; have BK959 := n1_; have GW959 := n2_; have GE959 := n3_; clear n0_ n1_ n2_ n3_; clear hb hbox hg) | ((with_reducible refine gate_dst (N := 3) rfl ?_); refine bE (N := 3) (cs := #[.int .i64 a1_0, .int .i64 a1_1, .int .i64 a1_2, .slice A1_3 l1_3.length c1_3, .slice A1_4 l1_4.length c1_4]) (t := 89) ?_; intro gb960 hg w28 hbox hb; have n0_ := Aside0.mk (kb BK959 hb); have n1_ := Aside0.mk (below_step (w := w) bW hb); have n2_ := Aside0.mk (hbox); have n3_ := Aside0.mk (gS (w := w) hg); have n4_ := n3_; have n5_ := Aside0.mk (nL BK959 hg); have n6_ := Aside0.mk (nG BK959 hg); clear BK959; clear HB; have BK959 := n0_; have HB := n1_; have BK960 := n2_; have GW960 := n3_; have GE960 := n4_; have NB959_960 := n5_; have NB960_959 := n6_; clear n0_ n1_ n2_ n3_ n4_ n5_ n6_; clear hb hbox hg; have hnb29 := NB959_960.out; have hnc29 := NB960_959.out; obtain ⟨hcz30_0, hcz30_1, hcz30_2, hcz30_3, hcz30_4⟩ := cz5 BK959; obtain ⟨hfz30_0, hfz30_1, hfz30_2, hfz30_3, hfz30_4⟩ := fz5 BK959; obtain ⟨hcz31_0, hcz31_1, hcz31_2, hcz31_3, hcz31_4⟩ := cz5 BK960; obtain ⟨hfz31_0, hfz31_1, hfz31_2, hfz31_3, hfz31_4⟩ := fz5 BK960))
        go_ret
        exact ⟨rE, bW⟩
    · rw [if_neg c4] at H
      have c4b0 : (a0_1 == a1_1) = false := beq_eq_false_iff_ne.mpr c4
      have c4b1 : (a0_1 != a1_1) = true := bne_iff_ne.mpr c4
      obtain rfl := Option.some.inj H
      go_enter Try.func134, Try.ntmps134
      go_wp2_with (first | ((with_reducible refine gate_dst (N := 2) rfl ?_); refine bE (N := 2) (cs := #[.int .i64 a0_0, .int .i64 a0_1, .int .i64 a0_2, .slice A0_3 l0_3.length c0_3, .slice A0_4 l0_4.length c0_4]) (t := 89) ?_; intro gb959 hg w32 hbox hb; have n0_ := Aside0.mk (below_step (w := w) bW hb); have n1_ := Aside0.mk (hbox); have n2_ := Aside0.mk (gS (w := w) hg); have n3_ := n2_; clear HB; have HB := n0_; have BK959 := n1_; have GW959 := n2_; have GE959 := n3_; clear n0_ n1_ n2_ n3_; clear hb hbox hg) | ((with_reducible refine gate_dst (N := 3) rfl ?_); refine bE (N := 3) (cs := #[.int .i64 a1_0, .int .i64 a1_1, .int .i64 a1_2, .slice A1_3 l1_3.length c1_3, .slice A1_4 l1_4.length c1_4]) (t := 89) ?_; intro gb960 hg w33 hbox hb; have n0_ := Aside0.mk (kb BK959 hb); have n1_ := Aside0.mk (below_step (w := w) bW hb); have n2_ := Aside0.mk (hbox); have n3_ := Aside0.mk (gS (w := w) hg); have n4_ := n3_; have n5_ := Aside0.mk (nL BK959 hg); have n6_ := Aside0.mk (nG BK959 hg); clear BK959; clear HB; have BK959 := n0_; have HB := n1_; have BK960 := n2_; have GW960 := n3_; have GE960 := n4_; have NB959_960 := n5_; have NB960_959 := n6_; clear n0_ n1_ n2_ n3_ n4_ n5_ n6_; clear hb hbox hg; have hnb34 := NB959_960.out; have hnc34 := NB960_959.out; obtain ⟨hcz35_0, hcz35_1, hcz35_2, hcz35_3, hcz35_4⟩ := cz5 BK959; obtain ⟨hfz35_0, hfz35_1, hfz35_2, hfz35_3, hfz35_4⟩ := fz5 BK959; obtain ⟨hcz36_0, hcz36_1, hcz36_2, hcz36_3, hcz36_4⟩ := cz5 BK960; obtain ⟨hfz36_0, hfz36_1, hfz36_2, hfz36_3, hfz36_4⟩ := fz5 BK960))
      go_ret
      exact ⟨rE, bW⟩
  · rw [if_neg c3] at H
    have c3b0 : (a0_0 == a1_0) = false := beq_eq_false_iff_ne.mpr c3
    have c3b1 : (a0_0 != a1_0) = true := bne_iff_ne.mpr c3
    obtain rfl := Option.some.inj H
    go_enter Try.func134, Try.ntmps134
    go_wp2_with (first | ((with_reducible refine gate_dst (N := 2) rfl ?_); refine bE (N := 2) (cs := #[.int .i64 a0_0, .int .i64 a0_1, .int .i64 a0_2, .slice A0_3 l0_3.length c0_3, .slice A0_4 l0_4.length c0_4]) (t := 89) ?_; intro gb959 hg w37 hbox hb; have n0_ := Aside0.mk (below_step (w := w) bW hb); have n1_ := Aside0.mk (hbox); have n2_ := Aside0.mk (gS (w := w) hg); have n3_ := n2_; clear HB; have HB := n0_; have BK959 := n1_; have GW959 := n2_; have GE959 := n3_; clear n0_ n1_ n2_ n3_; clear hb hbox hg) | ((with_reducible refine gate_dst (N := 3) rfl ?_); refine bE (N := 3) (cs := #[.int .i64 a1_0, .int .i64 a1_1, .int .i64 a1_2, .slice A1_3 l1_3.length c1_3, .slice A1_4 l1_4.length c1_4]) (t := 89) ?_; intro gb960 hg w38 hbox hb; have n0_ := Aside0.mk (kb BK959 hb); have n1_ := Aside0.mk (below_step (w := w) bW hb); have n2_ := Aside0.mk (hbox); have n3_ := Aside0.mk (gS (w := w) hg); have n4_ := n3_; have n5_ := Aside0.mk (nL BK959 hg); have n6_ := Aside0.mk (nG BK959 hg); clear BK959; clear HB; have BK959 := n0_; have HB := n1_; have BK960 := n2_; have GW960 := n3_; have GE960 := n4_; have NB959_960 := n5_; have NB960_959 := n6_; clear n0_ n1_ n2_ n3_ n4_ n5_ n6_; clear hb hbox hg; have hnb39 := NB959_960.out; have hnc39 := NB960_959.out; obtain ⟨hcz40_0, hcz40_1, hcz40_2, hcz40_3, hcz40_4⟩ := cz5 BK959; obtain ⟨hfz40_0, hfz40_1, hfz40_2, hfz40_3, hfz40_4⟩ := fz5 BK959; obtain ⟨hcz41_0, hcz41_1, hcz41_2, hcz41_3, hcz41_4⟩ := cz5 BK960; obtain ⟨hfz41_0, hfz41_1, hfz41_2, hfz41_3, hfz41_4⟩ := fz5 BK960))
    go_ret
    exact ⟨rE, bW⟩
end Go.Proofs.Ytcpljigliklgcaa.Q
end

section
namespace Go.Proofs.Ytcpljigliklgcaa.Q
open Go.RowKit Go.Proofs.YtcpljigliklgcaaW.PrintWords Go.Proofs.YtcpljigliklgcaaW.PrintLast Go.Proofs.YtcpljigliklgcaaW.PrintMore
attribute [local go_sem] max2_int min2_int max_two min_two max_three min_three max_four min_four   -- for this text's walks alone
set_option linter.unusedVariables false
set_option linter.unusedSimpArgs false
attribute [local go_sem] bin_leq bin_gtr bin_geq
def laws_eqMoment.f (k : Nat) (a0_0 : Int) (a0_1 : Int) (a0_2 : Int) (a0_3 : Int) (a0_4 : Int) (a0_5 : ByteArray) (a0_6 : ByteArray) (l0_7 : List (S134)) (a0_8 : Int) (a0_9 : Int) (a0_10 : Int) (l0_11 : List ByteArray) (l0_12 : List (S51)) (a1_0 : Int) (a1_1 : Int) (a1_2 : Int) (a1_3 : Int) (a1_4 : Int) (a1_5 : ByteArray) (a1_6 : ByteArray) (l1_7 : List (S134)) (a1_8 : Int) (a1_9 : Int) (a1_10 : Int) (l1_11 : List ByteArray) (l1_12 : List (S51)) : Option (Bool) := if a0_0 = a1_0 then (if a0_1 = a1_1 then (if a0_2 = a1_2 then ((laws_eqOp.f k a0_3 a0_4 a0_5 a0_6 l0_7 a1_3 a1_4 a1_5 a1_6 l1_7).bind fun t965 => (if t965 = true then ((laws_eqResult.f k a0_8 a0_9 a0_10 l0_11 l0_12 a1_8 a1_9 a1_10 l1_11 l1_12).bind fun t966 => (if t966 = true then (some true) else (some false))) else (some false))) else (some false)) else (some false)) else (some false)
set_option maxHeartbeats 8000000 in
set_option maxRecDepth 100000 in
theorem laws_eqMoment.calls (k : Nat) (a0_0 : Int) (a0_1 : Int) (a0_2 : Int) (a0_3 : Int) (a0_4 : Int) (a0_5 : ByteArray) (a0_6 : ByteArray) (A0_7 : Option Addr) (c0_7 : Nat) (l0_7 : List (S134)) (a0_8 : Int) (a0_9 : Int) (a0_10 : Int) (A0_11 : Option Addr) (c0_11 : Nat) (l0_11 : List ByteArray) (A0_12 : Option Addr) (c0_12 : Nat) (l0_12 : List (S51)) (a1_0 : Int) (a1_1 : Int) (a1_2 : Int) (a1_3 : Int) (a1_4 : Int) (a1_5 : ByteArray) (a1_6 : ByteArray) (A1_7 : Option Addr) (c1_7 : Nat) (l1_7 : List (S134)) (a1_8 : Int) (a1_9 : Int) (a1_10 : Int) (A1_11 : Option Addr) (c1_11 : Nat) (l1_11 : List ByteArray) (A1_12 : Option Addr) (c1_12 : Nat) (l1_12 : List (S51)) (r : Bool) (w : World) (hr0_7 : Kd.C k134 w A0_7 l0_7.length l0_7) (hc0_7 : l0_7.length ≤ c0_7) (hr0_11 : Kd.C Kd.string w A0_11 l0_11.length l0_11) (hc0_11 : l0_11.length ≤ c0_11) (hr0_12 : Kd.C k51 w A0_12 l0_12.length l0_12) (hc0_12 : l0_12.length ≤ c0_12) (hr1_7 : Kd.C k134 w A1_7 l1_7.length l1_7) (hc1_7 : l1_7.length ≤ c1_7) (hr1_11 : Kd.C Kd.string w A1_11 l1_11.length l1_11) (hc1_11 : l1_11.length ≤ c1_11) (hr1_12 : Kd.C k51 w A1_12 l1_12.length l1_12) (hc1_12 : l1_12.length ≤ c1_12) (h : laws_eqMoment.f k a0_0 a0_1 a0_2 a0_3 a0_4 a0_5 a0_6 l0_7 a0_8 a0_9 a0_10 l0_11 l0_12 a1_0 a1_1 a1_2 a1_3 a1_4 a1_5 a1_6 l1_7 a1_8 a1_9 a1_10 l1_11 l1_12 = some r) :
    Calls Try.prog 54 #[.agg #[.int .i64 a0_0, .int .i64 a0_1, .int .i64 a0_2, .int .i64 a0_3, .int .i64 a0_4, .string a0_5, .string a0_6, .slice A0_7 l0_7.length c0_7, .int .i64 a0_8, .int .i64 a0_9, .int .i64 a0_10, .slice A0_11 l0_11.length c0_11, .slice A0_12 l0_12.length c0_12], .agg #[.int .i64 a1_0, .int .i64 a1_1, .int .i64 a1_2, .int .i64 a1_3, .int .i64 a1_4, .string a1_5, .string a1_6, .slice A1_7 l1_7.length c1_7, .int .i64 a1_8, .int .i64 a1_9, .int .i64 a1_10, .slice A1_11 l1_11.length c1_11, .slice A1_12 l1_12.length c1_12]] w fun e w' => e = .returned (.bool r) ∧ Below w.heap.size w w' := by
  have hu91 := Try.underlying91
  have hu87 := Try.underlying87
  have hu89 := Try.underlying89
  have HR0_7 := Aside0.mk hr0_7
  have HC0_7 := Aside0.mk hc0_7
  clear hr0_7 hc0_7
  have HR0_11 := Aside0.mk hr0_11
  have HC0_11 := Aside0.mk hc0_11
  clear hr0_11 hc0_11
  have HR0_12 := Aside0.mk hr0_12
  have HC0_12 := Aside0.mk hc0_12
  clear hr0_12 hc0_12
  have HR1_7 := Aside0.mk hr1_7
  have HC1_7 := Aside0.mk hc1_7
  clear hr1_7 hc1_7
  have HR1_11 := Aside0.mk hr1_11
  have HC1_11 := Aside0.mk hc1_11
  clear hr1_11 hc1_11
  have HR1_12 := Aside0.mk hr1_12
  have HC1_12 := Aside0.mk hc1_12
  clear hr1_12 hc1_12
  have HB := Aside0.mk (Below.refl w.heap.size w)
  have H : (if a0_0 = a1_0 then (if a0_1 = a1_1 then (if a0_2 = a1_2 then ((laws_eqOp.f k a0_3 a0_4 a0_5 a0_6 l0_7 a1_3 a1_4 a1_5 a1_6 l1_7).bind fun t965 => (if t965 = true then ((laws_eqResult.f k a0_8 a0_9 a0_10 l0_11 l0_12 a1_8 a1_9 a1_10 l1_11 l1_12).bind fun t966 => (if t966 = true then (some true) else (some false))) else (some false))) else (some false)) else (some false)) else (some false)) = some r := h
  clear h
  by_cases c3 : a0_0 = a1_0
  · rw [if_pos c3] at H
    have c3b0 : (a0_0 == a1_0) = true := beq_iff_eq.mpr c3
    have c3b1 : (a0_0 != a1_0) = false := bne_eq_false_iff_eq.mpr c3
    clear c3
    by_cases c4 : a0_1 = a1_1
    · rw [if_pos c4] at H
      have c4b0 : (a0_1 == a1_1) = true := beq_iff_eq.mpr c4
      have c4b1 : (a0_1 != a1_1) = false := bne_eq_false_iff_eq.mpr c4
      clear c4
      by_cases c5 : a0_2 = a1_2
      · rw [if_pos c5] at H
        have c5b0 : (a0_2 == a1_2) = true := beq_iff_eq.mpr c5
        have c5b1 : (a0_2 != a1_2) = false := bne_eq_false_iff_eq.mpr c5
        clear c5
        replace H := Option.bind_eq_some_iff.mp H
        obtain ⟨t965, A60, H⟩ := H
        replace H : (if t965 = true then ((laws_eqResult.f k a0_8 a0_9 a0_10 l0_11 l0_12 a1_8 a1_9 a1_10 l1_11 l1_12).bind fun t966 => (if t966 = true then (some true) else (some false))) else (some false)) = some r := H
        have A6 := Aside0.mk A60
        clear A60
        by_cases c7 : t965 = true
        · subst c7
          have H1 : ((laws_eqResult.f k a0_8 a0_9 a0_10 l0_11 l0_12 a1_8 a1_9 a1_10 l1_11 l1_12).bind fun t966 => (if t966 = true then (some true) else (some false))) = some r := by rw [if_pos rfl] at H; exact H
          clear H
          have H := H1
          clear H1
          replace H := Option.bind_eq_some_iff.mp H
          obtain ⟨t966, A80, H⟩ := H
          replace H : (if t966 = true then (some true) else (some false)) = some r := H
          have A8 := Aside0.mk A80
          clear A80
          by_cases c9 : t966 = true
          · subst c9
            have H1 : (some true) = some r := by rw [if_pos rfl] at H; exact H
            clear H
            have H := H1
            clear H1
            obtain rfl := Option.some.inj H
            go_enter Try.func54, Try.ntmps54
            go_wp2_with (first | ((with_reducible refine gate_dst (N := 2) rfl ?_); refine bE (N := 2) (cs := #[.int .i64 a0_0, .int .i64 a0_1, .int .i64 a0_2, .int .i64 a0_3, .int .i64 a0_4, .string a0_5, .string a0_6, .slice A0_7 l0_7.length c0_7, .int .i64 a0_8, .int .i64 a0_9, .int .i64 a0_10, .slice A0_11 l0_11.length c0_11, .slice A0_12 l0_12.length c0_12]) (t := 91) ?_; intro gb963 hg w10 hbox hb; have n0_ := Aside0.mk (below_step (w := w) bW hb); have n1_ := Aside0.mk (hbox); have n2_ := Aside0.mk (gS (w := w) hg); have n3_ := n2_; clear HB; have HB := n0_; have BK963 := n1_; have GW963 := n2_; have GE963 := n3_; clear n0_ n1_ n2_ n3_; clear hb hbox hg) | ((with_reducible refine gate_dst (N := 3) rfl ?_); refine bE (N := 3) (cs := #[.int .i64 a1_0, .int .i64 a1_1, .int .i64 a1_2, .int .i64 a1_3, .int .i64 a1_4, .string a1_5, .string a1_6, .slice A1_7 l1_7.length c1_7, .int .i64 a1_8, .int .i64 a1_9, .int .i64 a1_10, .slice A1_11 l1_11.length c1_11, .slice A1_12 l1_12.length c1_12]) (t := 91) ?_; intro gb964 hg w11 hbox hb; have n0_ := Aside0.mk (kb BK963 hb); have n1_ := Aside0.mk (below_step (w := w) bW hb); have n2_ := Aside0.mk (hbox); have n3_ := Aside0.mk (gS (w := w) hg); have n4_ := n3_; have n5_ := Aside0.mk (nL BK963 hg); have n6_ := Aside0.mk (nG BK963 hg); clear BK963; clear HB; have BK963 := n0_; have HB := n1_; have BK964 := n2_; have GW964 := n3_; have GE964 := n4_; have NB963_964 := n5_; have NB964_963 := n6_; clear n0_ n1_ n2_ n3_ n4_ n5_ n6_; clear hb hbox hg; have hnb12 := NB963_964.out; have hnc12 := NB964_963.out; obtain ⟨hcz13_0, hcz13_1, hcz13_2, hcz13_3, hcz13_4, hcz13_5, hcz13_6, hcz13_7, hcz13_8, hcz13_9, hcz13_10, hcz13_11, hcz13_12⟩ := cz13 BK963; obtain ⟨hfz13_0, hfz13_1, hfz13_2, hfz13_3, hfz13_4, hfz13_5, hfz13_6, hfz13_7, hfz13_8, hfz13_9, hfz13_10, hfz13_11, hfz13_12⟩ := fz13 BK963; obtain ⟨hcz14_0, hcz14_1, hcz14_2, hcz14_3, hcz14_4, hcz14_5, hcz14_6, hcz14_7, hcz14_8, hcz14_9, hcz14_10, hcz14_11, hcz14_12⟩ := cz13 BK964; obtain ⟨hfz14_0, hfz14_1, hfz14_2, hfz14_3, hfz14_4, hfz14_5, hfz14_6, hfz14_7, hfz14_8, hfz14_9, hfz14_10, hfz14_11, hfz14_12⟩ := fz13 BK964) | ((with_reducible refine gate_callee (f := 133) rfl ?_); refine goesL_ (some 24) rfl rfl Try.func133 (by kernel_rfl) rfl #[.agg #[.int .i64 a0_3, .int .i64 a0_4, .string a0_5, .string a0_6, .slice A0_7 l0_7.length c0_7], .agg #[.int .i64 a1_3, .int .i64 a1_4, .string a1_5, .string a1_6, .slice A1_7 l1_7.length c1_7]] rfl gA ?_; (with_reducible refine (laws_eqOp.calls k a0_3 a0_4 a0_5 a0_6 _ _ l0_7 a1_3 a1_4 a1_5 a1_6 _ _ l1_7 true _ ?side1 ?side2 ?side3 ?side4 A6.out).mono ?_); (case side1 => exact cB HR0_7); (case side2 => exact HC0_7.out); (case side3 => exact cB HR1_7); (case side4 => exact HC1_7.out); rintro e w15 ⟨rfl, hb⟩; refine ⟨_, rfl, ?_⟩; have n0_ := Aside0.mk (kb BK963 hb); have n1_ := Aside0.mk (kb BK964 hb); have n2_ := Aside0.mk (below_step (w := w) bW hb); clear BK963; clear BK964; clear HB; have BK963 := n0_; have BK964 := n1_; have HB := n2_; clear n0_ n1_ n2_; (try clear hb); (try clear hb2); (try clear hk); (try clear hi); obtain ⟨hcz16_0, hcz16_1, hcz16_2, hcz16_3, hcz16_4, hcz16_5, hcz16_6, hcz16_7, hcz16_8, hcz16_9, hcz16_10, hcz16_11, hcz16_12⟩ := cz13 BK963; obtain ⟨hfz16_0, hfz16_1, hfz16_2, hfz16_3, hfz16_4, hfz16_5, hfz16_6, hfz16_7, hfz16_8, hfz16_9, hfz16_10, hfz16_11, hfz16_12⟩ := fz13 BK963; obtain ⟨hcz17_0, hcz17_1, hcz17_2, hcz17_3, hcz17_4, hcz17_5, hcz17_6, hcz17_7, hcz17_8, hcz17_9, hcz17_10, hcz17_11, hcz17_12⟩ := cz13 BK964; obtain ⟨hfz17_0, hfz17_1, hfz17_2, hfz17_3, hfz17_4, hfz17_5, hfz17_6, hfz17_7, hfz17_8, hfz17_9, hfz17_10, hfz17_11, hfz17_12⟩ := fz13 BK964) | ((with_reducible refine gate_callee (f := 134) rfl ?_); refine goesL_ (some 30) rfl rfl Try.func134 (by kernel_rfl) rfl #[.agg #[.int .i64 a0_8, .int .i64 a0_9, .int .i64 a0_10, .slice A0_11 l0_11.length c0_11, .slice A0_12 l0_12.length c0_12], .agg #[.int .i64 a1_8, .int .i64 a1_9, .int .i64 a1_10, .slice A1_11 l1_11.length c1_11, .slice A1_12 l1_12.length c1_12]] rfl gA ?_; (with_reducible refine (laws_eqResult.calls k a0_8 a0_9 a0_10 _ _ l0_11 _ _ l0_12 a1_8 a1_9 a1_10 _ _ l1_11 _ _ l1_12 true _ ?side1 ?side2 ?side3 ?side4 ?side5 ?side6 ?side7 ?side8 A8.out).mono ?_); (case side1 => exact cB HR0_11); (case side2 => exact HC0_11.out); (case side3 => exact cB HR0_12); (case side4 => exact HC0_12.out); (case side5 => exact cB HR1_11); (case side6 => exact HC1_11.out); (case side7 => exact cB HR1_12); (case side8 => exact HC1_12.out); rintro e w18 ⟨rfl, hb⟩; refine ⟨_, rfl, ?_⟩; have n0_ := Aside0.mk (kb BK963 hb); have n1_ := Aside0.mk (kb BK964 hb); have n2_ := Aside0.mk (below_step (w := w) bW hb); clear BK963; clear BK964; clear HB; have BK963 := n0_; have BK964 := n1_; have HB := n2_; clear n0_ n1_ n2_; (try clear hb); (try clear hb2); (try clear hk); (try clear hi)))
            go_ret
            exact ⟨rE, bW⟩
          · replace c9 := Bool.eq_false_iff.mpr c9
            subst c9
            have H1 : (some false) = some r := by rw [if_neg (show ¬ (false = true) by decide)] at H; exact H
            clear H
            have H := H1
            clear H1
            obtain rfl := Option.some.inj H
            go_enter Try.func54, Try.ntmps54
            go_wp2_with (first | ((with_reducible refine gate_dst (N := 2) rfl ?_); refine bE (N := 2) (cs := #[.int .i64 a0_0, .int .i64 a0_1, .int .i64 a0_2, .int .i64 a0_3, .int .i64 a0_4, .string a0_5, .string a0_6, .slice A0_7 l0_7.length c0_7, .int .i64 a0_8, .int .i64 a0_9, .int .i64 a0_10, .slice A0_11 l0_11.length c0_11, .slice A0_12 l0_12.length c0_12]) (t := 91) ?_; intro gb963 hg w19 hbox hb; have n0_ := Aside0.mk (below_step (w := w) bW hb); have n1_ := Aside0.mk (hbox); have n2_ := Aside0.mk (gS (w := w) hg); have n3_ := n2_; clear HB; have HB := n0_; have BK963 := n1_; have GW963 := n2_; have GE963 := n3_; clear n0_ n1_ n2_ n3_; clear hb hbox hg) | ((with_reducible refine gate_dst (N := 3) rfl ?_); refine bE (N := 3) (cs := #[.int .i64 a1_0, .int .i64 a1_1, .int .i64 a1_2, .int .i64 a1_3, .int .i64 a1_4, .string a1_5, .string a1_6, .slice A1_7 l1_7.length c1_7, .int .i64 a1_8, .int .i64 a1_9, .int .i64 a1_10, .slice A1_11 l1_11.length c1_11, .slice A1_12 l1_12.length c1_12]) (t := 91) ?_; intro gb964 hg w20 hbox hb; have n0_ := Aside0.mk (kb BK963 hb); have n1_ := Aside0.mk (below_step (w := w) bW hb); have n2_ := Aside0.mk (hbox); have n3_ := Aside0.mk (gS (w := w) hg); have n4_ := n3_; have n5_ := Aside0.mk (nL BK963 hg); have n6_ := Aside0.mk (nG BK963 hg); clear BK963; clear HB; have BK963 := n0_; have HB := n1_; have BK964 := n2_; have GW964 := n3_; have GE964 := n4_; have NB963_964 := n5_; have NB964_963 := n6_; clear n0_ n1_ n2_ n3_ n4_ n5_ n6_; clear hb hbox hg; have hnb21 := NB963_964.out; have hnc21 := NB964_963.out; obtain ⟨hcz22_0, hcz22_1, hcz22_2, hcz22_3, hcz22_4, hcz22_5, hcz22_6, hcz22_7, hcz22_8, hcz22_9, hcz22_10, hcz22_11, hcz22_12⟩ := cz13 BK963; obtain ⟨hfz22_0, hfz22_1, hfz22_2, hfz22_3, hfz22_4, hfz22_5, hfz22_6, hfz22_7, hfz22_8, hfz22_9, hfz22_10, hfz22_11, hfz22_12⟩ := fz13 BK963; obtain ⟨hcz23_0, hcz23_1, hcz23_2, hcz23_3, hcz23_4, hcz23_5, hcz23_6, hcz23_7, hcz23_8, hcz23_9, hcz23_10, hcz23_11, hcz23_12⟩ := cz13 BK964; obtain ⟨hfz23_0, hfz23_1, hfz23_2, hfz23_3, hfz23_4, hfz23_5, hfz23_6, hfz23_7, hfz23_8, hfz23_9, hfz23_10, hfz23_11, hfz23_12⟩ := fz13 BK964) | ((with_reducible refine gate_callee (f := 133) rfl ?_); refine goesL_ (some 24) rfl rfl Try.func133 (by kernel_rfl) rfl #[.agg #[.int .i64 a0_3, .int .i64 a0_4, .string a0_5, .string a0_6, .slice A0_7 l0_7.length c0_7], .agg #[.int .i64 a1_3, .int .i64 a1_4, .string a1_5, .string a1_6, .slice A1_7 l1_7.length c1_7]] rfl gA ?_; (with_reducible refine (laws_eqOp.calls k a0_3 a0_4 a0_5 a0_6 _ _ l0_7 a1_3 a1_4 a1_5 a1_6 _ _ l1_7 true _ ?side1 ?side2 ?side3 ?side4 A6.out).mono ?_); (case side1 => exact cB HR0_7); (case side2 => exact HC0_7.out); (case side3 => exact cB HR1_7); (case side4 => exact HC1_7.out); rintro e w24 ⟨rfl, hb⟩; refine ⟨_, rfl, ?_⟩; have n0_ := Aside0.mk (kb BK963 hb); have n1_ := Aside0.mk (kb BK964 hb); have n2_ := Aside0.mk (below_step (w := w) bW hb); clear BK963; clear BK964; clear HB; have BK963 := n0_; have BK964 := n1_; have HB := n2_; clear n0_ n1_ n2_; (try clear hb); (try clear hb2); (try clear hk); (try clear hi); obtain ⟨hcz25_0, hcz25_1, hcz25_2, hcz25_3, hcz25_4, hcz25_5, hcz25_6, hcz25_7, hcz25_8, hcz25_9, hcz25_10, hcz25_11, hcz25_12⟩ := cz13 BK963; obtain ⟨hfz25_0, hfz25_1, hfz25_2, hfz25_3, hfz25_4, hfz25_5, hfz25_6, hfz25_7, hfz25_8, hfz25_9, hfz25_10, hfz25_11, hfz25_12⟩ := fz13 BK963; obtain ⟨hcz26_0, hcz26_1, hcz26_2, hcz26_3, hcz26_4, hcz26_5, hcz26_6, hcz26_7, hcz26_8, hcz26_9, hcz26_10, hcz26_11, hcz26_12⟩ := cz13 BK964; obtain ⟨hfz26_0, hfz26_1, hfz26_2, hfz26_3, hfz26_4, hfz26_5, hfz26_6, hfz26_7, hfz26_8, hfz26_9, hfz26_10, hfz26_11, hfz26_12⟩ := fz13 BK964) | ((with_reducible refine gate_callee (f := 134) rfl ?_); refine goesL_ (some 30) rfl rfl Try.func134 (by kernel_rfl) rfl #[.agg #[.int .i64 a0_8, .int .i64 a0_9, .int .i64 a0_10, .slice A0_11 l0_11.length c0_11, .slice A0_12 l0_12.length c0_12], .agg #[.int .i64 a1_8, .int .i64 a1_9, .int .i64 a1_10, .slice A1_11 l1_11.length c1_11, .slice A1_12 l1_12.length c1_12]] rfl gA ?_; (with_reducible refine (laws_eqResult.calls k a0_8 a0_9 a0_10 _ _ l0_11 _ _ l0_12 a1_8 a1_9 a1_10 _ _ l1_11 _ _ l1_12 false _ ?side1 ?side2 ?side3 ?side4 ?side5 ?side6 ?side7 ?side8 A8.out).mono ?_); (case side1 => exact cB HR0_11); (case side2 => exact HC0_11.out); (case side3 => exact cB HR0_12); (case side4 => exact HC0_12.out); (case side5 => exact cB HR1_11); (case side6 => exact HC1_11.out); (case side7 => exact cB HR1_12); (case side8 => exact HC1_12.out); rintro e w27 ⟨rfl, hb⟩; refine ⟨_, rfl, ?_⟩; have n0_ := Aside0.mk (kb BK963 hb); have n1_ := Aside0.mk (kb BK964 hb); have n2_ := Aside0.mk (below_step (w := w) bW hb); clear BK963; clear BK964; clear HB; have BK963 := n0_; have BK964 := n1_; have HB := n2_; clear n0_ n1_ n2_; (try clear hb); (try clear hb2); (try clear hk); (try clear hi)))
            go_ret
            exact ⟨rE, bW⟩
        · replace c7 := Bool.eq_false_iff.mpr c7
          subst c7
          have H1 : (some false) = some r := by rw [if_neg (show ¬ (false = true) by decide)] at H; exact H
          clear H
          have H := H1
          clear H1
          obtain rfl := Option.some.inj H
          go_enter Try.func54, Try.ntmps54
          go_wp2_with (first | ((with_reducible refine gate_dst (N := 2) rfl ?_); refine bE (N := 2) (cs := #[.int .i64 a0_0, .int .i64 a0_1, .int .i64 a0_2, .int .i64 a0_3, .int .i64 a0_4, .string a0_5, .string a0_6, .slice A0_7 l0_7.length c0_7, .int .i64 a0_8, .int .i64 a0_9, .int .i64 a0_10, .slice A0_11 l0_11.length c0_11, .slice A0_12 l0_12.length c0_12]) (t := 91) ?_; intro gb963 hg w28 hbox hb; have n0_ := Aside0.mk (below_step (w := w) bW hb); have n1_ := Aside0.mk (hbox); have n2_ := Aside0.mk (gS (w := w) hg); have n3_ := n2_; clear HB; have HB := n0_; have BK963 := n1_; have GW963 := n2_; have GE963 := n3_; clear n0_ n1_ n2_ n3_; clear hb hbox hg) | ((with_reducible refine gate_dst (N := 3) rfl ?_); refine bE (N := 3) (cs := #[.int .i64 a1_0, .int .i64 a1_1, .int .i64 a1_2, .int .i64 a1_3, .int .i64 a1_4, .string a1_5, .string a1_6, .slice A1_7 l1_7.length c1_7, .int .i64 a1_8, .int .i64 a1_9, .int .i64 a1_10, .slice A1_11 l1_11.length c1_11, .slice A1_12 l1_12.length c1_12]) (t := 91) ?_; intro gb964 hg w29 hbox hb; have n0_ := Aside0.mk (kb BK963 hb); have n1_ := Aside0.mk (below_step (w := w) bW hb); have n2_ := Aside0.mk (hbox); have n3_ := Aside0.mk (gS (w := w) hg); have n4_ := n3_; have n5_ := Aside0.mk (nL BK963 hg); have n6_ := Aside0.mk (nG BK963 hg); clear BK963; clear HB; have BK963 := n0_; have HB := n1_; have BK964 := n2_; have GW964 := n3_; have GE964 := n4_; have NB963_964 := n5_; have NB964_963 := n6_; clear n0_ n1_ n2_ n3_ n4_ n5_ n6_; clear hb hbox hg; have hnb30 := NB963_964.out; have hnc30 := NB964_963.out; obtain ⟨hcz31_0, hcz31_1, hcz31_2, hcz31_3, hcz31_4, hcz31_5, hcz31_6, hcz31_7, hcz31_8, hcz31_9, hcz31_10, hcz31_11, hcz31_12⟩ := cz13 BK963; obtain ⟨hfz31_0, hfz31_1, hfz31_2, hfz31_3, hfz31_4, hfz31_5, hfz31_6, hfz31_7, hfz31_8, hfz31_9, hfz31_10, hfz31_11, hfz31_12⟩ := fz13 BK963; obtain ⟨hcz32_0, hcz32_1, hcz32_2, hcz32_3, hcz32_4, hcz32_5, hcz32_6, hcz32_7, hcz32_8, hcz32_9, hcz32_10, hcz32_11, hcz32_12⟩ := cz13 BK964; obtain ⟨hfz32_0, hfz32_1, hfz32_2, hfz32_3, hfz32_4, hfz32_5, hfz32_6, hfz32_7, hfz32_8, hfz32_9, hfz32_10, hfz32_11, hfz32_12⟩ := fz13 BK964) | ((with_reducible refine gate_callee (f := 133) rfl ?_); refine goesL_ (some 24) rfl rfl Try.func133 (by kernel_rfl) rfl #[.agg #[.int .i64 a0_3, .int .i64 a0_4, .string a0_5, .string a0_6, .slice A0_7 l0_7.length c0_7], .agg #[.int .i64 a1_3, .int .i64 a1_4, .string a1_5, .string a1_6, .slice A1_7 l1_7.length c1_7]] rfl gA ?_; (with_reducible refine (laws_eqOp.calls k a0_3 a0_4 a0_5 a0_6 _ _ l0_7 a1_3 a1_4 a1_5 a1_6 _ _ l1_7 false _ ?side1 ?side2 ?side3 ?side4 A6.out).mono ?_); (case side1 => exact cB HR0_7); (case side2 => exact HC0_7.out); (case side3 => exact cB HR1_7); (case side4 => exact HC1_7.out); rintro e w33 ⟨rfl, hb⟩; refine ⟨_, rfl, ?_⟩; have n0_ := Aside0.mk (kb BK963 hb); have n1_ := Aside0.mk (kb BK964 hb); have n2_ := Aside0.mk (below_step (w := w) bW hb); clear BK963; clear BK964; clear HB; have BK963 := n0_; have BK964 := n1_; have HB := n2_; clear n0_ n1_ n2_; (try clear hb); (try clear hb2); (try clear hk); (try clear hi)))
          go_ret
          exact ⟨rE, bW⟩
      · rw [if_neg c5] at H
        have c5b0 : (a0_2 == a1_2) = false := beq_eq_false_iff_ne.mpr c5
        have c5b1 : (a0_2 != a1_2) = true := bne_iff_ne.mpr c5
        obtain rfl := Option.some.inj H
        go_enter Try.func54, Try.ntmps54
        go_wp2_with (first | ((with_reducible refine gate_dst (N := 2) rfl ?_); refine bE (N := 2) (cs := #[.int .i64 a0_0, .int .i64 a0_1, .int .i64 a0_2, .int .i64 a0_3, .int .i64 a0_4, .string a0_5, .string a0_6, .slice A0_7 l0_7.length c0_7, .int .i64 a0_8, .int .i64 a0_9, .int .i64 a0_10, .slice A0_11 l0_11.length c0_11, .slice A0_12 l0_12.length c0_12]) (t := 91) ?_; intro gb963 hg w34 hbox hb; have n0_ := Aside0.mk (below_step (w := w) bW hb); have n1_ := Aside0.mk (hbox); have n2_ := Aside0.mk (gS (w := w) hg); have n3_ := n2_; clear HB; have HB := n0_; have BK963 := n1_; have GW963 := n2_; have GE963 := n3_; clear n0_ n1_ n2_ n3_; clear hb hbox hg) | ((with_reducible refine gate_dst (N := 3) rfl ?_); refine bE (N := 3) (cs := #[.int .i64 a1_0, .int .i64 a1_1, .int .i64 a1_2, .int .i64 a1_3, .int .i64 a1_4, .string a1_5, .string a1_6, .slice A1_7 l1_7.length c1_7, .int .i64 a1_8, .int .i64 a1_9, .int .i64 a1_10, .slice A1_11 l1_11.length c1_11, .slice A1_12 l1_12.length c1_12]) (t := 91) ?_; intro gb964 hg w35 hbox hb; have n0_ := Aside0.mk (kb BK963 hb); have n1_ := Aside0.mk (below_step (w := w) bW hb); have n2_ := Aside0.mk (hbox); have n3_ := Aside0.mk (gS (w := w) hg); have n4_ := n3_; have n5_ := Aside0.mk (nL BK963 hg); have n6_ := Aside0.mk (nG BK963 hg); clear BK963; clear HB; have BK963 := n0_; have HB := n1_; have BK964 := n2_; have GW964 := n3_; have GE964 := n4_; have NB963_964 := n5_; have NB964_963 := n6_; clear n0_ n1_ n2_ n3_ n4_ n5_ n6_; clear hb hbox hg; have hnb36 := NB963_964.out; have hnc36 := NB964_963.out; obtain ⟨hcz37_0, hcz37_1, hcz37_2, hcz37_3, hcz37_4, hcz37_5, hcz37_6, hcz37_7, hcz37_8, hcz37_9, hcz37_10, hcz37_11, hcz37_12⟩ := cz13 BK963; obtain ⟨hfz37_0, hfz37_1, hfz37_2, hfz37_3, hfz37_4, hfz37_5, hfz37_6, hfz37_7, hfz37_8, hfz37_9, hfz37_10, hfz37_11, hfz37_12⟩ := fz13 BK963; obtain ⟨hcz38_0, hcz38_1, hcz38_2, hcz38_3, hcz38_4, hcz38_5, hcz38_6, hcz38_7, hcz38_8, hcz38_9, hcz38_10, hcz38_11, hcz38_12⟩ := cz13 BK964; obtain ⟨hfz38_0, hfz38_1, hfz38_2, hfz38_3, hfz38_4, hfz38_5, hfz38_6, hfz38_7, hfz38_8, hfz38_9, hfz38_10, hfz38_11, hfz38_12⟩ := fz13 BK964))
        go_ret
        exact ⟨rE, bW⟩
    · rw [if_neg c4] at H
      have c4b0 : (a0_1 == a1_1) = false := beq_eq_false_iff_ne.mpr c4
      have c4b1 : (a0_1 != a1_1) = true := bne_iff_ne.mpr c4
      obtain rfl := Option.some.inj H
      go_enter Try.func54, Try.ntmps54
      go_wp2_with (first | ((with_reducible refine gate_dst (N := 2) rfl ?_); refine bE (N := 2) (cs := #[.int .i64 a0_0, .int .i64 a0_1, .int .i64 a0_2, .int .i64 a0_3, .int .i64 a0_4, .string a0_5, .string a0_6, .slice A0_7 l0_7.length c0_7, .int .i64 a0_8, .int .i64 a0_9, .int .i64 a0_10, .slice A0_11 l0_11.length c0_11, .slice A0_12 l0_12.length c0_12]) (t := 91) ?_; intro gb963 hg w39 hbox hb; have n0_ := Aside0.mk (below_step (w := w) bW hb); have n1_ := Aside0.mk (hbox); have n2_ := Aside0.mk (gS (w := w) hg); have n3_ := n2_; clear HB; have HB := n0_; have BK963 := n1_; have GW963 := n2_; have GE963 := n3_; clear n0_ n1_ n2_ n3_; clear hb hbox hg) | ((with_reducible refine gate_dst (N := 3) rfl ?_); refine bE (N := 3) (cs := #[.int .i64 a1_0, .int .i64 a1_1, .int .i64 a1_2, .int .i64 a1_3, .int .i64 a1_4, .string a1_5, .string a1_6, .slice A1_7 l1_7.length c1_7, .int .i64 a1_8, .int .i64 a1_9, .int .i64 a1_10, .slice A1_11 l1_11.length c1_11, .slice A1_12 l1_12.length c1_12]) (t := 91) ?_; intro gb964 hg w40 hbox hb; have n0_ := Aside0.mk (kb BK963 hb); have n1_ := Aside0.mk (below_step (w := w) bW hb); have n2_ := Aside0.mk (hbox); have n3_ := Aside0.mk (gS (w := w) hg); have n4_ := n3_; have n5_ := Aside0.mk (nL BK963 hg); have n6_ := Aside0.mk (nG BK963 hg); clear BK963; clear HB; have BK963 := n0_; have HB := n1_; have BK964 := n2_; have GW964 := n3_; have GE964 := n4_; have NB963_964 := n5_; have NB964_963 := n6_; clear n0_ n1_ n2_ n3_ n4_ n5_ n6_; clear hb hbox hg; have hnb41 := NB963_964.out; have hnc41 := NB964_963.out; obtain ⟨hcz42_0, hcz42_1, hcz42_2, hcz42_3, hcz42_4, hcz42_5, hcz42_6, hcz42_7, hcz42_8, hcz42_9, hcz42_10, hcz42_11, hcz42_12⟩ := cz13 BK963; obtain ⟨hfz42_0, hfz42_1, hfz42_2, hfz42_3, hfz42_4, hfz42_5, hfz42_6, hfz42_7, hfz42_8, hfz42_9, hfz42_10, hfz42_11, hfz42_12⟩ := fz13 BK963; obtain ⟨hcz43_0, hcz43_1, hcz43_2, hcz43_3, hcz43_4, hcz43_5, hcz43_6, hcz43_7, hcz43_8, hcz43_9, hcz43_10, hcz43_11, hcz43_12⟩ := cz13 BK964; obtain ⟨hfz43_0, hfz43_1, hfz43_2, hfz43_3, hfz43_4, hfz43_5, hfz43_6, hfz43_7, hfz43_8, hfz43_9, hfz43_10, hfz43_11, hfz43_12⟩ := fz13 BK964))
      go_ret
      exact ⟨rE, bW⟩
  · rw [if_neg c3] at H
    have c3b0 : (a0_0 == a1_0) = false := beq_eq_false_iff_ne.mpr c3
    have c3b1 : (a0_0 != a1_0) = true := bne_iff_ne.mpr c3
    obtain rfl := Option.some.inj H
    go_enter Try.func54, Try.ntmps54
    go_wp2_with (first | ((with_reducible refine gate_dst (N := 2) rfl ?_); refine bE (N := 2) (cs := #[.int .i64 a0_0, .int .i64 a0_1, .int .i64 a0_2, .int .i64 a0_3, .int .i64 a0_4, .string a0_5, .string a0_6, .slice A0_7 l0_7.length c0_7, .int .i64 a0_8, .int .i64 a0_9, .int .i64 a0_10, .slice A0_11 l0_11.length c0_11, .slice A0_12 l0_12.length c0_12]) (t := 91) ?_; intro gb963 hg w44 hbox hb; have n0_ := Aside0.mk (below_step (w := w) bW hb); have n1_ := Aside0.mk (hbox); have n2_ := Aside0.mk (gS (w := w) hg); have n3_ := n2_; clear HB; have HB := n0_; have BK963 := n1_; have GW963 := n2_; have GE963 := n3_; clear n0_ n1_ n2_ n3_; clear hb hbox hg) | ((with_reducible refine gate_dst (N := 3) rfl ?_); refine bE (N := 3) (cs := #[.int .i64 a1_0, .int .i64 a1_1, .int .i64 a1_2, .int .i64 a1_3, .int .i64 a1_4, .string a1_5, .string a1_6, .slice A1_7 l1_7.length c1_7, .int .i64 a1_8, .int .i64 a1_9, .int .i64 a1_10, .slice A1_11 l1_11.length c1_11, .slice A1_12 l1_12.length c1_12]) (t := 91) ?_; intro gb964 hg w45 hbox hb; have n0_ := Aside0.mk (kb BK963 hb); have n1_ := Aside0.mk (below_step (w := w) bW hb); have n2_ := Aside0.mk (hbox); have n3_ := Aside0.mk (gS (w := w) hg); have n4_ := n3_; have n5_ := Aside0.mk (nL BK963 hg); have n6_ := Aside0.mk (nG BK963 hg); clear BK963; clear HB; have BK963 := n0_; have HB := n1_; have BK964 := n2_; have GW964 := n3_; have GE964 := n4_; have NB963_964 := n5_; have NB964_963 := n6_; clear n0_ n1_ n2_ n3_ n4_ n5_ n6_; clear hb hbox hg; have hnb46 := NB963_964.out; have hnc46 := NB964_963.out; obtain ⟨hcz47_0, hcz47_1, hcz47_2, hcz47_3, hcz47_4, hcz47_5, hcz47_6, hcz47_7, hcz47_8, hcz47_9, hcz47_10, hcz47_11, hcz47_12⟩ := cz13 BK963; obtain ⟨hfz47_0, hfz47_1, hfz47_2, hfz47_3, hfz47_4, hfz47_5, hfz47_6, hfz47_7, hfz47_8, hfz47_9, hfz47_10, hfz47_11, hfz47_12⟩ := fz13 BK963; obtain ⟨hcz48_0, hcz48_1, hcz48_2, hcz48_3, hcz48_4, hcz48_5, hcz48_6, hcz48_7, hcz48_8, hcz48_9, hcz48_10, hcz48_11, hcz48_12⟩ := cz13 BK964; obtain ⟨hfz48_0, hfz48_1, hfz48_2, hfz48_3, hfz48_4, hfz48_5, hfz48_6, hfz48_7, hfz48_8, hfz48_9, hfz48_10, hfz48_11, hfz48_12⟩ := fz13 BK964))
    go_ret
    exact ⟨rE, bW⟩
end Go.Proofs.Ytcpljigliklgcaa.Q
end

section
namespace Go.Proofs.Ytcpljigliklgcaa.Q
open Go.RowKit Go.Proofs.YtcpljigliklgcaaW.PrintWords Go.Proofs.YtcpljigliklgcaaW.PrintLast Go.Proofs.YtcpljigliklgcaaW.PrintMore
attribute [local go_sem] max2_int min2_int max_two min_two max_three min_three max_four min_four   -- for this text's walks alone
set_option linter.unusedVariables false
set_option linter.unusedSimpArgs false
attribute [local go_sem] bin_leq bin_gtr bin_geq
def laws_FnExactSameMoment.f (k : Nat) (a0_0 : Int) (a0_1 : Int) (a0_2 : Int) (a0_3 : Int) (a0_4 : Int) (a0_5 : ByteArray) (a0_6 : ByteArray) (l0_7 : List (S142)) (a0_8 : Int) (a0_9 : Int) (a0_10 : Int) (l0_11 : List ByteArray) (l0_12 : List (S125)) (a1_0 : Int) (a1_1 : Int) (a1_2 : Int) (a1_3 : Int) (a1_4 : Int) (a1_5 : ByteArray) (a1_6 : ByteArray) (l1_7 : List (S142)) (a1_8 : Int) (a1_9 : Int) (a1_10 : Int) (l1_11 : List ByteArray) (l1_12 : List (S125)) : Option (Bool) := (laws_szMoment.f k a0_0 a0_1 a0_2 a0_3 a0_4 a0_5 a0_6 l0_7 a0_8 a0_9 a0_10 l0_11 l0_12 1048576).bind fun t969 => (if t969 < 0 then (some true) else ((laws_szMoment.f k a1_0 a1_1 a1_2 a1_3 a1_4 a1_5 a1_6 l1_7 a1_8 a1_9 a1_10 l1_11 l1_12 t969).bind fun t970 => (if t970 < 0 then (some true) else ((laws_toMoment.f k a0_0 a0_1 a0_2 a0_3 a0_4 a0_5 a0_6 l0_7 a0_8 a0_9 a0_10 l0_11 l0_12).bind fun bt971 => ((laws_toMoment.f k a1_0 a1_1 a1_2 a1_3 a1_4 a1_5 a1_6 l1_7 a1_8 a1_9 a1_10 l1_11 l1_12).bind fun bt990 => ((spec_SameMoment.f k bt971.1 bt971.2.1 bt971.2.2.1 bt971.2.2.2.1 bt971.2.2.2.2.1 bt971.2.2.2.2.2.1 bt971.2.2.2.2.2.2.1 bt971.2.2.2.2.2.2.2.1 bt971.2.2.2.2.2.2.2.2.1 bt971.2.2.2.2.2.2.2.2.2.1 bt971.2.2.2.2.2.2.2.2.2.2.1 bt971.2.2.2.2.2.2.2.2.2.2.2.1 bt971.2.2.2.2.2.2.2.2.2.2.2.2 bt990.1 bt990.2.1 bt990.2.2.1 bt990.2.2.2.1 bt990.2.2.2.2.1 bt990.2.2.2.2.2.1 bt990.2.2.2.2.2.2.1 bt990.2.2.2.2.2.2.2.1 bt990.2.2.2.2.2.2.2.2.1 bt990.2.2.2.2.2.2.2.2.2.1 bt990.2.2.2.2.2.2.2.2.2.2.1 bt990.2.2.2.2.2.2.2.2.2.2.2.1 bt990.2.2.2.2.2.2.2.2.2.2.2.2).bind fun t1009 => ((laws_toMoment.f k a0_0 a0_1 a0_2 a0_3 a0_4 a0_5 a0_6 l0_7 a0_8 a0_9 a0_10 l0_11 l0_12).bind fun bt1010 => ((laws_toMoment.f k a1_0 a1_1 a1_2 a1_3 a1_4 a1_5 a1_6 l1_7 a1_8 a1_9 a1_10 l1_11 l1_12).bind fun bt1030 => ((impl_SameMoment.f k bt1010.1 bt1010.2.1 bt1010.2.2.1 bt1010.2.2.2.1 bt1010.2.2.2.2.1 bt1010.2.2.2.2.2.1 bt1010.2.2.2.2.2.2.1 bt1010.2.2.2.2.2.2.2.1 bt1010.2.2.2.2.2.2.2.2.1 bt1010.2.2.2.2.2.2.2.2.2.1 bt1010.2.2.2.2.2.2.2.2.2.2.1 bt1010.2.2.2.2.2.2.2.2.2.2.2.1 bt1010.2.2.2.2.2.2.2.2.2.2.2.2 bt1030.1 bt1030.2.1 bt1030.2.2.1 bt1030.2.2.2.1 bt1030.2.2.2.2.1 bt1030.2.2.2.2.2.1 bt1030.2.2.2.2.2.2.1 bt1030.2.2.2.2.2.2.2.1 bt1030.2.2.2.2.2.2.2.2.1 bt1030.2.2.2.2.2.2.2.2.2.1 bt1030.2.2.2.2.2.2.2.2.2.2.1 bt1030.2.2.2.2.2.2.2.2.2.2.2.1 bt1030.2.2.2.2.2.2.2.2.2.2.2.2).bind fun t1050 => (if (t1050 != t1009) = true then (some false) else ((laws_toMoment.f k a0_0 a0_1 a0_2 a0_3 a0_4 a0_5 a0_6 l0_7 a0_8 a0_9 a0_10 l0_11 l0_12).bind fun bt1051 => ((laws_eqMoment.f k bt1010.1 bt1010.2.1 bt1010.2.2.1 bt1010.2.2.2.1 bt1010.2.2.2.2.1 bt1010.2.2.2.2.2.1 bt1010.2.2.2.2.2.2.1 bt1010.2.2.2.2.2.2.2.1 bt1010.2.2.2.2.2.2.2.2.1 bt1010.2.2.2.2.2.2.2.2.2.1 bt1010.2.2.2.2.2.2.2.2.2.2.1 bt1010.2.2.2.2.2.2.2.2.2.2.2.1 bt1010.2.2.2.2.2.2.2.2.2.2.2.2 bt1051.1 bt1051.2.1 bt1051.2.2.1 bt1051.2.2.2.1 bt1051.2.2.2.2.1 bt1051.2.2.2.2.2.1 bt1051.2.2.2.2.2.2.1 bt1051.2.2.2.2.2.2.2.1 bt1051.2.2.2.2.2.2.2.2.1 bt1051.2.2.2.2.2.2.2.2.2.1 bt1051.2.2.2.2.2.2.2.2.2.2.1 bt1051.2.2.2.2.2.2.2.2.2.2.2.1 bt1051.2.2.2.2.2.2.2.2.2.2.2.2).bind fun t1070 => (if t1070 = true then ((laws_toMoment.f k a1_0 a1_1 a1_2 a1_3 a1_4 a1_5 a1_6 l1_7 a1_8 a1_9 a1_10 l1_11 l1_12).bind fun bt1071 => ((laws_eqMoment.f k bt1030.1 bt1030.2.1 bt1030.2.2.1 bt1030.2.2.2.1 bt1030.2.2.2.2.1 bt1030.2.2.2.2.2.1 bt1030.2.2.2.2.2.2.1 bt1030.2.2.2.2.2.2.2.1 bt1030.2.2.2.2.2.2.2.2.1 bt1030.2.2.2.2.2.2.2.2.2.1 bt1030.2.2.2.2.2.2.2.2.2.2.1 bt1030.2.2.2.2.2.2.2.2.2.2.2.1 bt1030.2.2.2.2.2.2.2.2.2.2.2.2 bt1071.1 bt1071.2.1 bt1071.2.2.1 bt1071.2.2.2.1 bt1071.2.2.2.2.1 bt1071.2.2.2.2.2.1 bt1071.2.2.2.2.2.2.1 bt1071.2.2.2.2.2.2.2.1 bt1071.2.2.2.2.2.2.2.2.1 bt1071.2.2.2.2.2.2.2.2.2.1 bt1071.2.2.2.2.2.2.2.2.2.2.1 bt1071.2.2.2.2.2.2.2.2.2.2.2.1 bt1071.2.2.2.2.2.2.2.2.2.2.2.2).bind fun t1090 => (if t1090 = true then (some true) else (some false)))) else (some false))))))))))))))
set_option maxHeartbeats 8000000 in
set_option maxRecDepth 100000 in
theorem laws_FnExactSameMoment.calls (k : Nat) (a0_0 : Int) (a0_1 : Int) (a0_2 : Int) (a0_3 : Int) (a0_4 : Int) (a0_5 : ByteArray) (a0_6 : ByteArray) (A0_7 : Option Addr) (c0_7 : Nat) (l0_7 : List (S142)) (a0_8 : Int) (a0_9 : Int) (a0_10 : Int) (A0_11 : Option Addr) (c0_11 : Nat) (l0_11 : List ByteArray) (A0_12 : Option Addr) (c0_12 : Nat) (l0_12 : List (S125)) (a1_0 : Int) (a1_1 : Int) (a1_2 : Int) (a1_3 : Int) (a1_4 : Int) (a1_5 : ByteArray) (a1_6 : ByteArray) (A1_7 : Option Addr) (c1_7 : Nat) (l1_7 : List (S142)) (a1_8 : Int) (a1_9 : Int) (a1_10 : Int) (A1_11 : Option Addr) (c1_11 : Nat) (l1_11 : List ByteArray) (A1_12 : Option Addr) (c1_12 : Nat) (l1_12 : List (S125)) (w : World) (hr0_7 : Kd.C k142 w A0_7 l0_7.length l0_7) (hc0_7 : l0_7.length ≤ c0_7) (hr0_11 : Kd.C Kd.string w A0_11 l0_11.length l0_11) (hc0_11 : l0_11.length ≤ c0_11) (hr0_12 : Kd.C k125 w A0_12 l0_12.length l0_12) (hc0_12 : l0_12.length ≤ c0_12) (hr1_7 : Kd.C k142 w A1_7 l1_7.length l1_7) (hc1_7 : l1_7.length ≤ c1_7) (hr1_11 : Kd.C Kd.string w A1_11 l1_11.length l1_11) (hc1_11 : l1_11.length ≤ c1_11) (hr1_12 : Kd.C k125 w A1_12 l1_12.length l1_12) (hc1_12 : l1_12.length ≤ c1_12) (h : laws_FnExactSameMoment.f k a0_0 a0_1 a0_2 a0_3 a0_4 a0_5 a0_6 l0_7 a0_8 a0_9 a0_10 l0_11 l0_12 a1_0 a1_1 a1_2 a1_3 a1_4 a1_5 a1_6 l1_7 a1_8 a1_9 a1_10 l1_11 l1_12 = some true) :
    Calls Try.prog 11 #[.agg #[.int .i64 a0_0, .int .i64 a0_1, .int .i64 a0_2, .int .i64 a0_3, .int .i64 a0_4, .string a0_5, .string a0_6, .slice A0_7 l0_7.length c0_7, .int .i64 a0_8, .int .i64 a0_9, .int .i64 a0_10, .slice A0_11 l0_11.length c0_11, .slice A0_12 l0_12.length c0_12], .agg #[.int .i64 a1_0, .int .i64 a1_1, .int .i64 a1_2, .int .i64 a1_3, .int .i64 a1_4, .string a1_5, .string a1_6, .slice A1_7 l1_7.length c1_7, .int .i64 a1_8, .int .i64 a1_9, .int .i64 a1_10, .slice A1_11 l1_11.length c1_11, .slice A1_12 l1_12.length c1_12]] w fun e w' => e = .returned (.bool true) ∧ Below w.heap.size w w' := by
  have hu83 := Try.underlying83
  have hu91 := Try.underlying91
  have HR0_7 := Aside0.mk hr0_7
  have HC0_7 := Aside0.mk hc0_7
  clear hr0_7 hc0_7
  have HR0_11 := Aside0.mk hr0_11
  have HC0_11 := Aside0.mk hc0_11
  clear hr0_11 hc0_11
  have HR0_12 := Aside0.mk hr0_12
  have HC0_12 := Aside0.mk hc0_12
  clear hr0_12 hc0_12
  have HR1_7 := Aside0.mk hr1_7
  have HC1_7 := Aside0.mk hc1_7
  clear hr1_7 hc1_7
  have HR1_11 := Aside0.mk hr1_11
  have HC1_11 := Aside0.mk hc1_11
  clear hr1_11 hc1_11
  have HR1_12 := Aside0.mk hr1_12
  have HC1_12 := Aside0.mk hc1_12
  clear hr1_12 hc1_12
  have HB := Aside0.mk (Below.refl w.heap.size w)
  have H : ((laws_szMoment.f k a0_0 a0_1 a0_2 a0_3 a0_4 a0_5 a0_6 l0_7 a0_8 a0_9 a0_10 l0_11 l0_12 1048576).bind fun t969 => (if t969 < 0 then (some true) else ((laws_szMoment.f k a1_0 a1_1 a1_2 a1_3 a1_4 a1_5 a1_6 l1_7 a1_8 a1_9 a1_10 l1_11 l1_12 t969).bind fun t970 => (if t970 < 0 then (some true) else ((laws_toMoment.f k a0_0 a0_1 a0_2 a0_3 a0_4 a0_5 a0_6 l0_7 a0_8 a0_9 a0_10 l0_11 l0_12).bind fun bt971 => ((laws_toMoment.f k a1_0 a1_1 a1_2 a1_3 a1_4 a1_5 a1_6 l1_7 a1_8 a1_9 a1_10 l1_11 l1_12).bind fun bt990 => ((spec_SameMoment.f k bt971.1 bt971.2.1 bt971.2.2.1 bt971.2.2.2.1 bt971.2.2.2.2.1 bt971.2.2.2.2.2.1 bt971.2.2.2.2.2.2.1 bt971.2.2.2.2.2.2.2.1 bt971.2.2.2.2.2.2.2.2.1 bt971.2.2.2.2.2.2.2.2.2.1 bt971.2.2.2.2.2.2.2.2.2.2.1 bt971.2.2.2.2.2.2.2.2.2.2.2.1 bt971.2.2.2.2.2.2.2.2.2.2.2.2 bt990.1 bt990.2.1 bt990.2.2.1 bt990.2.2.2.1 bt990.2.2.2.2.1 bt990.2.2.2.2.2.1 bt990.2.2.2.2.2.2.1 bt990.2.2.2.2.2.2.2.1 bt990.2.2.2.2.2.2.2.2.1 bt990.2.2.2.2.2.2.2.2.2.1 bt990.2.2.2.2.2.2.2.2.2.2.1 bt990.2.2.2.2.2.2.2.2.2.2.2.1 bt990.2.2.2.2.2.2.2.2.2.2.2.2).bind fun t1009 => ((laws_toMoment.f k a0_0 a0_1 a0_2 a0_3 a0_4 a0_5 a0_6 l0_7 a0_8 a0_9 a0_10 l0_11 l0_12).bind fun bt1010 => ((laws_toMoment.f k a1_0 a1_1 a1_2 a1_3 a1_4 a1_5 a1_6 l1_7 a1_8 a1_9 a1_10 l1_11 l1_12).bind fun bt1030 => ((impl_SameMoment.f k bt1010.1 bt1010.2.1 bt1010.2.2.1 bt1010.2.2.2.1 bt1010.2.2.2.2.1 bt1010.2.2.2.2.2.1 bt1010.2.2.2.2.2.2.1 bt1010.2.2.2.2.2.2.2.1 bt1010.2.2.2.2.2.2.2.2.1 bt1010.2.2.2.2.2.2.2.2.2.1 bt1010.2.2.2.2.2.2.2.2.2.2.1 bt1010.2.2.2.2.2.2.2.2.2.2.2.1 bt1010.2.2.2.2.2.2.2.2.2.2.2.2 bt1030.1 bt1030.2.1 bt1030.2.2.1 bt1030.2.2.2.1 bt1030.2.2.2.2.1 bt1030.2.2.2.2.2.1 bt1030.2.2.2.2.2.2.1 bt1030.2.2.2.2.2.2.2.1 bt1030.2.2.2.2.2.2.2.2.1 bt1030.2.2.2.2.2.2.2.2.2.1 bt1030.2.2.2.2.2.2.2.2.2.2.1 bt1030.2.2.2.2.2.2.2.2.2.2.2.1 bt1030.2.2.2.2.2.2.2.2.2.2.2.2).bind fun t1050 => (if (t1050 != t1009) = true then (some false) else ((laws_toMoment.f k a0_0 a0_1 a0_2 a0_3 a0_4 a0_5 a0_6 l0_7 a0_8 a0_9 a0_10 l0_11 l0_12).bind fun bt1051 => ((laws_eqMoment.f k bt1010.1 bt1010.2.1 bt1010.2.2.1 bt1010.2.2.2.1 bt1010.2.2.2.2.1 bt1010.2.2.2.2.2.1 bt1010.2.2.2.2.2.2.1 bt1010.2.2.2.2.2.2.2.1 bt1010.2.2.2.2.2.2.2.2.1 bt1010.2.2.2.2.2.2.2.2.2.1 bt1010.2.2.2.2.2.2.2.2.2.2.1 bt1010.2.2.2.2.2.2.2.2.2.2.2.1 bt1010.2.2.2.2.2.2.2.2.2.2.2.2 bt1051.1 bt1051.2.1 bt1051.2.2.1 bt1051.2.2.2.1 bt1051.2.2.2.2.1 bt1051.2.2.2.2.2.1 bt1051.2.2.2.2.2.2.1 bt1051.2.2.2.2.2.2.2.1 bt1051.2.2.2.2.2.2.2.2.1 bt1051.2.2.2.2.2.2.2.2.2.1 bt1051.2.2.2.2.2.2.2.2.2.2.1 bt1051.2.2.2.2.2.2.2.2.2.2.2.1 bt1051.2.2.2.2.2.2.2.2.2.2.2.2).bind fun t1070 => (if t1070 = true then ((laws_toMoment.f k a1_0 a1_1 a1_2 a1_3 a1_4 a1_5 a1_6 l1_7 a1_8 a1_9 a1_10 l1_11 l1_12).bind fun bt1071 => ((laws_eqMoment.f k bt1030.1 bt1030.2.1 bt1030.2.2.1 bt1030.2.2.2.1 bt1030.2.2.2.2.1 bt1030.2.2.2.2.2.1 bt1030.2.2.2.2.2.2.1 bt1030.2.2.2.2.2.2.2.1 bt1030.2.2.2.2.2.2.2.2.1 bt1030.2.2.2.2.2.2.2.2.2.1 bt1030.2.2.2.2.2.2.2.2.2.2.1 bt1030.2.2.2.2.2.2.2.2.2.2.2.1 bt1030.2.2.2.2.2.2.2.2.2.2.2.2 bt1071.1 bt1071.2.1 bt1071.2.2.1 bt1071.2.2.2.1 bt1071.2.2.2.2.1 bt1071.2.2.2.2.2.1 bt1071.2.2.2.2.2.2.1 bt1071.2.2.2.2.2.2.2.1 bt1071.2.2.2.2.2.2.2.2.1 bt1071.2.2.2.2.2.2.2.2.2.1 bt1071.2.2.2.2.2.2.2.2.2.2.1 bt1071.2.2.2.2.2.2.2.2.2.2.2.1 bt1071.2.2.2.2.2.2.2.2.2.2.2.2).bind fun t1090 => (if t1090 = true then (some true) else (some false)))) else (some false))))))))))))))) = some true := h
  clear h
  replace H := Option.bind_eq_some_iff.mp H
  obtain ⟨t969, A30, H⟩ := H
  replace H : (if t969 < 0 then (some true) else ((laws_szMoment.f k a1_0 a1_1 a1_2 a1_3 a1_4 a1_5 a1_6 l1_7 a1_8 a1_9 a1_10 l1_11 l1_12 t969).bind fun t970 => (if t970 < 0 then (some true) else ((laws_toMoment.f k a0_0 a0_1 a0_2 a0_3 a0_4 a0_5 a0_6 l0_7 a0_8 a0_9 a0_10 l0_11 l0_12).bind fun bt971 => ((laws_toMoment.f k a1_0 a1_1 a1_2 a1_3 a1_4 a1_5 a1_6 l1_7 a1_8 a1_9 a1_10 l1_11 l1_12).bind fun bt990 => ((spec_SameMoment.f k bt971.1 bt971.2.1 bt971.2.2.1 bt971.2.2.2.1 bt971.2.2.2.2.1 bt971.2.2.2.2.2.1 bt971.2.2.2.2.2.2.1 bt971.2.2.2.2.2.2.2.1 bt971.2.2.2.2.2.2.2.2.1 bt971.2.2.2.2.2.2.2.2.2.1 bt971.2.2.2.2.2.2.2.2.2.2.1 bt971.2.2.2.2.2.2.2.2.2.2.2.1 bt971.2.2.2.2.2.2.2.2.2.2.2.2 bt990.1 bt990.2.1 bt990.2.2.1 bt990.2.2.2.1 bt990.2.2.2.2.1 bt990.2.2.2.2.2.1 bt990.2.2.2.2.2.2.1 bt990.2.2.2.2.2.2.2.1 bt990.2.2.2.2.2.2.2.2.1 bt990.2.2.2.2.2.2.2.2.2.1 bt990.2.2.2.2.2.2.2.2.2.2.1 bt990.2.2.2.2.2.2.2.2.2.2.2.1 bt990.2.2.2.2.2.2.2.2.2.2.2.2).bind fun t1009 => ((laws_toMoment.f k a0_0 a0_1 a0_2 a0_3 a0_4 a0_5 a0_6 l0_7 a0_8 a0_9 a0_10 l0_11 l0_12).bind fun bt1010 => ((laws_toMoment.f k a1_0 a1_1 a1_2 a1_3 a1_4 a1_5 a1_6 l1_7 a1_8 a1_9 a1_10 l1_11 l1_12).bind fun bt1030 => ((impl_SameMoment.f k bt1010.1 bt1010.2.1 bt1010.2.2.1 bt1010.2.2.2.1 bt1010.2.2.2.2.1 bt1010.2.2.2.2.2.1 bt1010.2.2.2.2.2.2.1 bt1010.2.2.2.2.2.2.2.1 bt1010.2.2.2.2.2.2.2.2.1 bt1010.2.2.2.2.2.2.2.2.2.1 bt1010.2.2.2.2.2.2.2.2.2.2.1 bt1010.2.2.2.2.2.2.2.2.2.2.2.1 bt1010.2.2.2.2.2.2.2.2.2.2.2.2 bt1030.1 bt1030.2.1 bt1030.2.2.1 bt1030.2.2.2.1 bt1030.2.2.2.2.1 bt1030.2.2.2.2.2.1 bt1030.2.2.2.2.2.2.1 bt1030.2.2.2.2.2.2.2.1 bt1030.2.2.2.2.2.2.2.2.1 bt1030.2.2.2.2.2.2.2.2.2.1 bt1030.2.2.2.2.2.2.2.2.2.2.1 bt1030.2.2.2.2.2.2.2.2.2.2.2.1 bt1030.2.2.2.2.2.2.2.2.2.2.2.2).bind fun t1050 => (if (t1050 != t1009) = true then (some false) else ((laws_toMoment.f k a0_0 a0_1 a0_2 a0_3 a0_4 a0_5 a0_6 l0_7 a0_8 a0_9 a0_10 l0_11 l0_12).bind fun bt1051 => ((laws_eqMoment.f k bt1010.1 bt1010.2.1 bt1010.2.2.1 bt1010.2.2.2.1 bt1010.2.2.2.2.1 bt1010.2.2.2.2.2.1 bt1010.2.2.2.2.2.2.1 bt1010.2.2.2.2.2.2.2.1 bt1010.2.2.2.2.2.2.2.2.1 bt1010.2.2.2.2.2.2.2.2.2.1 bt1010.2.2.2.2.2.2.2.2.2.2.1 bt1010.2.2.2.2.2.2.2.2.2.2.2.1 bt1010.2.2.2.2.2.2.2.2.2.2.2.2 bt1051.1 bt1051.2.1 bt1051.2.2.1 bt1051.2.2.2.1 bt1051.2.2.2.2.1 bt1051.2.2.2.2.2.1 bt1051.2.2.2.2.2.2.1 bt1051.2.2.2.2.2.2.2.1 bt1051.2.2.2.2.2.2.2.2.1 bt1051.2.2.2.2.2.2.2.2.2.1 bt1051.2.2.2.2.2.2.2.2.2.2.1 bt1051.2.2.2.2.2.2.2.2.2.2.2.1 bt1051.2.2.2.2.2.2.2.2.2.2.2.2).bind fun t1070 => (if t1070 = true then ((laws_toMoment.f k a1_0 a1_1 a1_2 a1_3 a1_4 a1_5 a1_6 l1_7 a1_8 a1_9 a1_10 l1_11 l1_12).bind fun bt1071 => ((laws_eqMoment.f k bt1030.1 bt1030.2.1 bt1030.2.2.1 bt1030.2.2.2.1 bt1030.2.2.2.2.1 bt1030.2.2.2.2.2.1 bt1030.2.2.2.2.2.2.1 bt1030.2.2.2.2.2.2.2.1 bt1030.2.2.2.2.2.2.2.2.1 bt1030.2.2.2.2.2.2.2.2.2.1 bt1030.2.2.2.2.2.2.2.2.2.2.1 bt1030.2.2.2.2.2.2.2.2.2.2.2.1 bt1030.2.2.2.2.2.2.2.2.2.2.2.2 bt1071.1 bt1071.2.1 bt1071.2.2.1 bt1071.2.2.2.1 bt1071.2.2.2.2.1 bt1071.2.2.2.2.2.1 bt1071.2.2.2.2.2.2.1 bt1071.2.2.2.2.2.2.2.1 bt1071.2.2.2.2.2.2.2.2.1 bt1071.2.2.2.2.2.2.2.2.2.1 bt1071.2.2.2.2.2.2.2.2.2.2.1 bt1071.2.2.2.2.2.2.2.2.2.2.2.1 bt1071.2.2.2.2.2.2.2.2.2.2.2.2).bind fun t1090 => (if t1090 = true then (some true) else (some false)))) else (some false)))))))))))))) = some true := H
  have A3 := Aside0.mk A30
  clear A30
  by_cases c4 : t969 < 0
  · rw [if_pos c4] at H
    have c4b0 : decide (t969 < 0) = true := decide_eq_true c4
    clear c4
    clear H
    go_enter Try.func11, Try.ntmps11
    go_wp2_with (first | ((with_reducible refine gate_dst (N := 2) rfl ?_); refine bE (N := 2) (cs := #[.int .i64 a0_0, .int .i64 a0_1, .int .i64 a0_2, .int .i64 a0_3, .int .i64 a0_4, .string a0_5, .string a0_6, .slice A0_7 l0_7.length c0_7, .int .i64 a0_8, .int .i64 a0_9, .int .i64 a0_10, .slice A0_11 l0_11.length c0_11, .slice A0_12 l0_12.length c0_12]) (t := 83) ?_; intro gb967 hg w5 hbox hb; have n0_ := Aside0.mk (below_step (w := w) bW hb); have n1_ := Aside0.mk (hbox); have n2_ := Aside0.mk (gS (w := w) hg); have n3_ := n2_; clear HB; have HB := n0_; have BK967 := n1_; have GW967 := n2_; have GE967 := n3_; clear n0_ n1_ n2_ n3_; clear hb hbox hg) | ((with_reducible refine gate_dst (N := 3) rfl ?_); refine bE (N := 3) (cs := #[.int .i64 a1_0, .int .i64 a1_1, .int .i64 a1_2, .int .i64 a1_3, .int .i64 a1_4, .string a1_5, .string a1_6, .slice A1_7 l1_7.length c1_7, .int .i64 a1_8, .int .i64 a1_9, .int .i64 a1_10, .slice A1_11 l1_11.length c1_11, .slice A1_12 l1_12.length c1_12]) (t := 83) ?_; intro gb968 hg w6 hbox hb; have n0_ := Aside0.mk (kb BK967 hb); have n1_ := Aside0.mk (below_step (w := w) bW hb); have n2_ := Aside0.mk (hbox); have n3_ := Aside0.mk (gS (w := w) hg); have n4_ := n3_; have n5_ := Aside0.mk (nL BK967 hg); have n6_ := Aside0.mk (nG BK967 hg); clear BK967; clear HB; have BK967 := n0_; have HB := n1_; have BK968 := n2_; have GW968 := n3_; have GE968 := n4_; have NB967_968 := n5_; have NB968_967 := n6_; clear n0_ n1_ n2_ n3_ n4_ n5_ n6_; clear hb hbox hg; have hnb7 := NB967_968.out; have hnc7 := NB968_967.out; obtain ⟨hcz8_0, hcz8_1, hcz8_2, hcz8_3, hcz8_4, hcz8_5, hcz8_6, hcz8_7, hcz8_8, hcz8_9, hcz8_10, hcz8_11, hcz8_12⟩ := cz13 BK967; obtain ⟨hfz8_0, hfz8_1, hfz8_2, hfz8_3, hfz8_4, hfz8_5, hfz8_6, hfz8_7, hfz8_8, hfz8_9, hfz8_10, hfz8_11, hfz8_12⟩ := fz13 BK967) | ((with_reducible refine gate_callee (f := 50) rfl ?_); refine goesL_ (some 12) rfl rfl Try.func50 (by kernel_rfl) rfl #[.agg #[.int .i64 a0_0, .int .i64 a0_1, .int .i64 a0_2, .int .i64 a0_3, .int .i64 a0_4, .string a0_5, .string a0_6, .slice A0_7 l0_7.length c0_7, .int .i64 a0_8, .int .i64 a0_9, .int .i64 a0_10, .slice A0_11 l0_11.length c0_11, .slice A0_12 l0_12.length c0_12], .int .i64 1048576] rfl gA ?_; (with_reducible refine (laws_szMoment.calls k a0_0 a0_1 a0_2 a0_3 a0_4 a0_5 a0_6 _ _ l0_7 a0_8 a0_9 a0_10 _ _ l0_11 _ _ l0_12 1048576 t969 _ ?side1 ?side2 ?side3 ?side4 ?side5 ?side6 A3.out).mono ?_); (case side1 => exact cB HR0_7); (case side2 => exact HC0_7.out); (case side3 => exact cB HR0_11); (case side4 => exact HC0_11.out); (case side5 => exact cB HR0_12); (case side6 => exact HC0_12.out); rintro e w9 ⟨rfl, hb⟩; refine ⟨_, rfl, ?_⟩; have n0_ := Aside0.mk (kb BK967 hb); have n1_ := Aside0.mk (kb BK968 hb); have n2_ := Aside0.mk (below_step (w := w) bW hb); clear BK967; clear BK968; clear HB; have BK967 := n0_; have BK968 := n1_; have HB := n2_; clear n0_ n1_ n2_; (try clear hb); (try clear hb2); (try clear hk); (try clear hi)))
    go_ret
    exact ⟨rE, bW⟩
  · rw [if_neg c4] at H
    have c4b0 : decide (t969 < 0) = false := decide_eq_false c4
    clear c4
    replace H := Option.bind_eq_some_iff.mp H
    obtain ⟨t970, A100, H⟩ := H
    replace H : (if t970 < 0 then (some true) else ((laws_toMoment.f k a0_0 a0_1 a0_2 a0_3 a0_4 a0_5 a0_6 l0_7 a0_8 a0_9 a0_10 l0_11 l0_12).bind fun bt971 => ((laws_toMoment.f k a1_0 a1_1 a1_2 a1_3 a1_4 a1_5 a1_6 l1_7 a1_8 a1_9 a1_10 l1_11 l1_12).bind fun bt990 => ((spec_SameMoment.f k bt971.1 bt971.2.1 bt971.2.2.1 bt971.2.2.2.1 bt971.2.2.2.2.1 bt971.2.2.2.2.2.1 bt971.2.2.2.2.2.2.1 bt971.2.2.2.2.2.2.2.1 bt971.2.2.2.2.2.2.2.2.1 bt971.2.2.2.2.2.2.2.2.2.1 bt971.2.2.2.2.2.2.2.2.2.2.1 bt971.2.2.2.2.2.2.2.2.2.2.2.1 bt971.2.2.2.2.2.2.2.2.2.2.2.2 bt990.1 bt990.2.1 bt990.2.2.1 bt990.2.2.2.1 bt990.2.2.2.2.1 bt990.2.2.2.2.2.1 bt990.2.2.2.2.2.2.1 bt990.2.2.2.2.2.2.2.1 bt990.2.2.2.2.2.2.2.2.1 bt990.2.2.2.2.2.2.2.2.2.1 bt990.2.2.2.2.2.2.2.2.2.2.1 bt990.2.2.2.2.2.2.2.2.2.2.2.1 bt990.2.2.2.2.2.2.2.2.2.2.2.2).bind fun t1009 => ((laws_toMoment.f k a0_0 a0_1 a0_2 a0_3 a0_4 a0_5 a0_6 l0_7 a0_8 a0_9 a0_10 l0_11 l0_12).bind fun bt1010 => ((laws_toMoment.f k a1_0 a1_1 a1_2 a1_3 a1_4 a1_5 a1_6 l1_7 a1_8 a1_9 a1_10 l1_11 l1_12).bind fun bt1030 => ((impl_SameMoment.f k bt1010.1 bt1010.2.1 bt1010.2.2.1 bt1010.2.2.2.1 bt1010.2.2.2.2.1 bt1010.2.2.2.2.2.1 bt1010.2.2.2.2.2.2.1 bt1010.2.2.2.2.2.2.2.1 bt1010.2.2.2.2.2.2.2.2.1 bt1010.2.2.2.2.2.2.2.2.2.1 bt1010.2.2.2.2.2.2.2.2.2.2.1 bt1010.2.2.2.2.2.2.2.2.2.2.2.1 bt1010.2.2.2.2.2.2.2.2.2.2.2.2 bt1030.1 bt1030.2.1 bt1030.2.2.1 bt1030.2.2.2.1 bt1030.2.2.2.2.1 bt1030.2.2.2.2.2.1 bt1030.2.2.2.2.2.2.1 bt1030.2.2.2.2.2.2.2.1 bt1030.2.2.2.2.2.2.2.2.1 bt1030.2.2.2.2.2.2.2.2.2.1 bt1030.2.2.2.2.2.2.2.2.2.2.1 bt1030.2.2.2.2.2.2.2.2.2.2.2.1 bt1030.2.2.2.2.2.2.2.2.2.2.2.2).bind fun t1050 => (if (t1050 != t1009) = true then (some false) else ((laws_toMoment.f k a0_0 a0_1 a0_2 a0_3 a0_4 a0_5 a0_6 l0_7 a0_8 a0_9 a0_10 l0_11 l0_12).bind fun bt1051 => ((laws_eqMoment.f k bt1010.1 bt1010.2.1 bt1010.2.2.1 bt1010.2.2.2.1 bt1010.2.2.2.2.1 bt1010.2.2.2.2.2.1 bt1010.2.2.2.2.2.2.1 bt1010.2.2.2.2.2.2.2.1 bt1010.2.2.2.2.2.2.2.2.1 bt1010.2.2.2.2.2.2.2.2.2.1 bt1010.2.2.2.2.2.2.2.2.2.2.1 bt1010.2.2.2.2.2.2.2.2.2.2.2.1 bt1010.2.2.2.2.2.2.2.2.2.2.2.2 bt1051.1 bt1051.2.1 bt1051.2.2.1 bt1051.2.2.2.1 bt1051.2.2.2.2.1 bt1051.2.2.2.2.2.1 bt1051.2.2.2.2.2.2.1 bt1051.2.2.2.2.2.2.2.1 bt1051.2.2.2.2.2.2.2.2.1 bt1051.2.2.2.2.2.2.2.2.2.1 bt1051.2.2.2.2.2.2.2.2.2.2.1 bt1051.2.2.2.2.2.2.2.2.2.2.2.1 bt1051.2.2.2.2.2.2.2.2.2.2.2.2).bind fun t1070 => (if t1070 = true then ((laws_toMoment.f k a1_0 a1_1 a1_2 a1_3 a1_4 a1_5 a1_6 l1_7 a1_8 a1_9 a1_10 l1_11 l1_12).bind fun bt1071 => ((laws_eqMoment.f k bt1030.1 bt1030.2.1 bt1030.2.2.1 bt1030.2.2.2.1 bt1030.2.2.2.2.1 bt1030.2.2.2.2.2.1 bt1030.2.2.2.2.2.2.1 bt1030.2.2.2.2.2.2.2.1 bt1030.2.2.2.2.2.2.2.2.1 bt1030.2.2.2.2.2.2.2.2.2.1 bt1030.2.2.2.2.2.2.2.2.2.2.1 bt1030.2.2.2.2.2.2.2.2.2.2.2.1 bt1030.2.2.2.2.2.2.2.2.2.2.2.2 bt1071.1 bt1071.2.1 bt1071.2.2.1 bt1071.2.2.2.1 bt1071.2.2.2.2.1 bt1071.2.2.2.2.2.1 bt1071.2.2.2.2.2.2.1 bt1071.2.2.2.2.2.2.2.1 bt1071.2.2.2.2.2.2.2.2.1 bt1071.2.2.2.2.2.2.2.2.2.1 bt1071.2.2.2.2.2.2.2.2.2.2.1 bt1071.2.2.2.2.2.2.2.2.2.2.2.1 bt1071.2.2.2.2.2.2.2.2.2.2.2.2).bind fun t1090 => (if t1090 = true then (some true) else (some false)))) else (some false)))))))))))) = some true := H
    have A10 := Aside0.mk A100
    clear A100
    by_cases c11 : t970 < 0
    · rw [if_pos c11] at H
      have c11b0 : decide (t970 < 0) = true := decide_eq_true c11
      clear c11
      clear H
      go_enter Try.func11, Try.ntmps11
      go_wp2_with (first | ((with_reducible refine gate_dst (N := 2) rfl ?_); refine bE (N := 2) (cs := #[.int .i64 a0_0, .int .i64 a0_1, .int .i64 a0_2, .int .i64 a0_3, .int .i64 a0_4, .string a0_5, .string a0_6, .slice A0_7 l0_7.length c0_7, .int .i64 a0_8, .int .i64 a0_9, .int .i64 a0_10, .slice A0_11 l0_11.length c0_11, .slice A0_12 l0_12.length c0_12]) (t := 83) ?_; intro gb967 hg w12 hbox hb; have n0_ := Aside0.mk (below_step (w := w) bW hb); have n1_ := Aside0.mk (hbox); have n2_ := Aside0.mk (gS (w := w) hg); have n3_ := n2_; clear HB; have HB := n0_; have BK967 := n1_; have GW967 := n2_; have GE967 := n3_; clear n0_ n1_ n2_ n3_; clear hb hbox hg) | ((with_reducible refine gate_dst (N := 3) rfl ?_); refine bE (N := 3) (cs := #[.int .i64 a1_0, .int .i64 a1_1, .int .i64 a1_2, .int .i64 a1_3, .int .i64 a1_4, .string a1_5, .string a1_6, .slice A1_7 l1_7.length c1_7, .int .i64 a1_8, .int .i64 a1_9, .int .i64 a1_10, .slice A1_11 l1_11.length c1_11, .slice A1_12 l1_12.length c1_12]) (t := 83) ?_; intro gb968 hg w13 hbox hb; have n0_ := Aside0.mk (kb BK967 hb); have n1_ := Aside0.mk (below_step (w := w) bW hb); have n2_ := Aside0.mk (hbox); have n3_ := Aside0.mk (gS (w := w) hg); have n4_ := n3_; have n5_ := Aside0.mk (nL BK967 hg); have n6_ := Aside0.mk (nG BK967 hg); clear BK967; clear HB; have BK967 := n0_; have HB := n1_; have BK968 := n2_; have GW968 := n3_; have GE968 := n4_; have NB967_968 := n5_; have NB968_967 := n6_; clear n0_ n1_ n2_ n3_ n4_ n5_ n6_; clear hb hbox hg; have hnb14 := NB967_968.out; have hnc14 := NB968_967.out; obtain ⟨hcz15_0, hcz15_1, hcz15_2, hcz15_3, hcz15_4, hcz15_5, hcz15_6, hcz15_7, hcz15_8, hcz15_9, hcz15_10, hcz15_11, hcz15_12⟩ := cz13 BK967; obtain ⟨hfz15_0, hfz15_1, hfz15_2, hfz15_3, hfz15_4, hfz15_5, hfz15_6, hfz15_7, hfz15_8, hfz15_9, hfz15_10, hfz15_11, hfz15_12⟩ := fz13 BK967) | ((with_reducible refine gate_callee (f := 50) rfl ?_); refine goesL_ (some 12) rfl rfl Try.func50 (by kernel_rfl) rfl #[.agg #[.int .i64 a0_0, .int .i64 a0_1, .int .i64 a0_2, .int .i64 a0_3, .int .i64 a0_4, .string a0_5, .string a0_6, .slice A0_7 l0_7.length c0_7, .int .i64 a0_8, .int .i64 a0_9, .int .i64 a0_10, .slice A0_11 l0_11.length c0_11, .slice A0_12 l0_12.length c0_12], .int .i64 1048576] rfl gA ?_; (with_reducible refine (laws_szMoment.calls k a0_0 a0_1 a0_2 a0_3 a0_4 a0_5 a0_6 _ _ l0_7 a0_8 a0_9 a0_10 _ _ l0_11 _ _ l0_12 1048576 t969 _ ?side1 ?side2 ?side3 ?side4 ?side5 ?side6 A3.out).mono ?_); (case side1 => exact cB HR0_7); (case side2 => exact HC0_7.out); (case side3 => exact cB HR0_11); (case side4 => exact HC0_11.out); (case side5 => exact cB HR0_12); (case side6 => exact HC0_12.out); rintro e w16 ⟨rfl, hb⟩; refine ⟨_, rfl, ?_⟩; have n0_ := Aside0.mk (kb BK967 hb); have n1_ := Aside0.mk (kb BK968 hb); have n2_ := Aside0.mk (below_step (w := w) bW hb); clear BK967; clear BK968; clear HB; have BK967 := n0_; have BK968 := n1_; have HB := n2_; clear n0_ n1_ n2_; (try clear hb); (try clear hb2); (try clear hk); (try clear hi); obtain ⟨hcz17_0, hcz17_1, hcz17_2, hcz17_3, hcz17_4, hcz17_5, hcz17_6, hcz17_7, hcz17_8, hcz17_9, hcz17_10, hcz17_11, hcz17_12⟩ := cz13 BK968; obtain ⟨hfz17_0, hfz17_1, hfz17_2, hfz17_3, hfz17_4, hfz17_5, hfz17_6, hfz17_7, hfz17_8, hfz17_9, hfz17_10, hfz17_11, hfz17_12⟩ := fz13 BK968) | ((with_reducible refine gate_callee (f := 50) rfl ?_); refine goesL_ (some 17) rfl rfl Try.func50 (by kernel_rfl) rfl #[.agg #[.int .i64 a1_0, .int .i64 a1_1, .int .i64 a1_2, .int .i64 a1_3, .int .i64 a1_4, .string a1_5, .string a1_6, .slice A1_7 l1_7.length c1_7, .int .i64 a1_8, .int .i64 a1_9, .int .i64 a1_10, .slice A1_11 l1_11.length c1_11, .slice A1_12 l1_12.length c1_12], .int .i64 t969] rfl gA ?_; (with_reducible refine (laws_szMoment.calls k a1_0 a1_1 a1_2 a1_3 a1_4 a1_5 a1_6 _ _ l1_7 a1_8 a1_9 a1_10 _ _ l1_11 _ _ l1_12 t969 t970 _ ?side1 ?side2 ?side3 ?side4 ?side5 ?side6 A10.out).mono ?_); (case side1 => exact cB HR1_7); (case side2 => exact HC1_7.out); (case side3 => exact cB HR1_11); (case side4 => exact HC1_11.out); (case side5 => exact cB HR1_12); (case side6 => exact HC1_12.out); rintro e w18 ⟨rfl, hb⟩; refine ⟨_, rfl, ?_⟩; have n0_ := Aside0.mk (kb BK967 hb); have n1_ := Aside0.mk (kb BK968 hb); have n2_ := Aside0.mk (below_step (w := w) bW hb); clear BK967; clear BK968; clear HB; have BK967 := n0_; have BK968 := n1_; have HB := n2_; clear n0_ n1_ n2_; (try clear hb); (try clear hb2); (try clear hk); (try clear hi)))
      go_ret
      exact ⟨rE, bW⟩
    · rw [if_neg c11] at H
      have c11b0 : decide (t970 < 0) = false := decide_eq_false c11
      clear c11
      replace H := Option.bind_eq_some_iff.mp H
      obtain ⟨⟨t971, t972, t973, t974, t975, t976, t977, t978, t981, t982, t983, t984, t987⟩, A190, H⟩ := H
      replace H : ((laws_toMoment.f k a1_0 a1_1 a1_2 a1_3 a1_4 a1_5 a1_6 l1_7 a1_8 a1_9 a1_10 l1_11 l1_12).bind fun bt990 => ((spec_SameMoment.f k t971 t972 t973 t974 t975 t976 t977 t978 t981 t982 t983 t984 t987 bt990.1 bt990.2.1 bt990.2.2.1 bt990.2.2.2.1 bt990.2.2.2.2.1 bt990.2.2.2.2.2.1 bt990.2.2.2.2.2.2.1 bt990.2.2.2.2.2.2.2.1 bt990.2.2.2.2.2.2.2.2.1 bt990.2.2.2.2.2.2.2.2.2.1 bt990.2.2.2.2.2.2.2.2.2.2.1 bt990.2.2.2.2.2.2.2.2.2.2.2.1 bt990.2.2.2.2.2.2.2.2.2.2.2.2).bind fun t1009 => ((laws_toMoment.f k a0_0 a0_1 a0_2 a0_3 a0_4 a0_5 a0_6 l0_7 a0_8 a0_9 a0_10 l0_11 l0_12).bind fun bt1010 => ((laws_toMoment.f k a1_0 a1_1 a1_2 a1_3 a1_4 a1_5 a1_6 l1_7 a1_8 a1_9 a1_10 l1_11 l1_12).bind fun bt1030 => ((impl_SameMoment.f k bt1010.1 bt1010.2.1 bt1010.2.2.1 bt1010.2.2.2.1 bt1010.2.2.2.2.1 bt1010.2.2.2.2.2.1 bt1010.2.2.2.2.2.2.1 bt1010.2.2.2.2.2.2.2.1 bt1010.2.2.2.2.2.2.2.2.1 bt1010.2.2.2.2.2.2.2.2.2.1 bt1010.2.2.2.2.2.2.2.2.2.2.1 bt1010.2.2.2.2.2.2.2.2.2.2.2.1 bt1010.2.2.2.2.2.2.2.2.2.2.2.2 bt1030.1 bt1030.2.1 bt1030.2.2.1 bt1030.2.2.2.1 bt1030.2.2.2.2.1 bt1030.2.2.2.2.2.1 bt1030.2.2.2.2.2.2.1 bt1030.2.2.2.2.2.2.2.1 bt1030.2.2.2.2.2.2.2.2.1 bt1030.2.2.2.2.2.2.2.2.2.1 bt1030.2.2.2.2.2.2.2.2.2.2.1 bt1030.2.2.2.2.2.2.2.2.2.2.2.1 bt1030.2.2.2.2.2.2.2.2.2.2.2.2).bind fun t1050 => (if (t1050 != t1009) = true then (some false) else ((laws_toMoment.f k a0_0 a0_1 a0_2 a0_3 a0_4 a0_5 a0_6 l0_7 a0_8 a0_9 a0_10 l0_11 l0_12).bind fun bt1051 => ((laws_eqMoment.f k bt1010.1 bt1010.2.1 bt1010.2.2.1 bt1010.2.2.2.1 bt1010.2.2.2.2.1 bt1010.2.2.2.2.2.1 bt1010.2.2.2.2.2.2.1 bt1010.2.2.2.2.2.2.2.1 bt1010.2.2.2.2.2.2.2.2.1 bt1010.2.2.2.2.2.2.2.2.2.1 bt1010.2.2.2.2.2.2.2.2.2.2.1 bt1010.2.2.2.2.2.2.2.2.2.2.2.1 bt1010.2.2.2.2.2.2.2.2.2.2.2.2 bt1051.1 bt1051.2.1 bt1051.2.2.1 bt1051.2.2.2.1 bt1051.2.2.2.2.1 bt1051.2.2.2.2.2.1 bt1051.2.2.2.2.2.2.1 bt1051.2.2.2.2.2.2.2.1 bt1051.2.2.2.2.2.2.2.2.1 bt1051.2.2.2.2.2.2.2.2.2.1 bt1051.2.2.2.2.2.2.2.2.2.2.1 bt1051.2.2.2.2.2.2.2.2.2.2.2.1 bt1051.2.2.2.2.2.2.2.2.2.2.2.2).bind fun t1070 => (if t1070 = true then ((laws_toMoment.f k a1_0 a1_1 a1_2 a1_3 a1_4 a1_5 a1_6 l1_7 a1_8 a1_9 a1_10 l1_11 l1_12).bind fun bt1071 => ((laws_eqMoment.f k bt1030.1 bt1030.2.1 bt1030.2.2.1 bt1030.2.2.2.1 bt1030.2.2.2.2.1 bt1030.2.2.2.2.2.1 bt1030.2.2.2.2.2.2.1 bt1030.2.2.2.2.2.2.2.1 bt1030.2.2.2.2.2.2.2.2.1 bt1030.2.2.2.2.2.2.2.2.2.1 bt1030.2.2.2.2.2.2.2.2.2.2.1 bt1030.2.2.2.2.2.2.2.2.2.2.2.1 bt1030.2.2.2.2.2.2.2.2.2.2.2.2 bt1071.1 bt1071.2.1 bt1071.2.2.1 bt1071.2.2.2.1 bt1071.2.2.2.2.1 bt1071.2.2.2.2.2.1 bt1071.2.2.2.2.2.2.1 bt1071.2.2.2.2.2.2.2.1 bt1071.2.2.2.2.2.2.2.2.1 bt1071.2.2.2.2.2.2.2.2.2.1 bt1071.2.2.2.2.2.2.2.2.2.2.1 bt1071.2.2.2.2.2.2.2.2.2.2.2.1 bt1071.2.2.2.2.2.2.2.2.2.2.2.2).bind fun t1090 => (if t1090 = true then (some true) else (some false)))) else (some false)))))))))) = some true := H
      have A19 := Aside0.mk A190
      clear A190
      replace H := Option.bind_eq_some_iff.mp H
      obtain ⟨⟨t990, t991, t992, t993, t994, t995, t996, t997, t1000, t1001, t1002, t1003, t1006⟩, A200, H⟩ := H
      replace H : ((spec_SameMoment.f k t971 t972 t973 t974 t975 t976 t977 t978 t981 t982 t983 t984 t987 t990 t991 t992 t993 t994 t995 t996 t997 t1000 t1001 t1002 t1003 t1006).bind fun t1009 => ((laws_toMoment.f k a0_0 a0_1 a0_2 a0_3 a0_4 a0_5 a0_6 l0_7 a0_8 a0_9 a0_10 l0_11 l0_12).bind fun bt1010 => ((laws_toMoment.f k a1_0 a1_1 a1_2 a1_3 a1_4 a1_5 a1_6 l1_7 a1_8 a1_9 a1_10 l1_11 l1_12).bind fun bt1030 => ((impl_SameMoment.f k bt1010.1 bt1010.2.1 bt1010.2.2.1 bt1010.2.2.2.1 bt1010.2.2.2.2.1 bt1010.2.2.2.2.2.1 bt1010.2.2.2.2.2.2.1 bt1010.2.2.2.2.2.2.2.1 bt1010.2.2.2.2.2.2.2.2.1 bt1010.2.2.2.2.2.2.2.2.2.1 bt1010.2.2.2.2.2.2.2.2.2.2.1 bt1010.2.2.2.2.2.2.2.2.2.2.2.1 bt1010.2.2.2.2.2.2.2.2.2.2.2.2 bt1030.1 bt1030.2.1 bt1030.2.2.1 bt1030.2.2.2.1 bt1030.2.2.2.2.1 bt1030.2.2.2.2.2.1 bt1030.2.2.2.2.2.2.1 bt1030.2.2.2.2.2.2.2.1 bt1030.2.2.2.2.2.2.2.2.1 bt1030.2.2.2.2.2.2.2.2.2.1 bt1030.2.2.2.2.2.2.2.2.2.2.1 bt1030.2.2.2.2.2.2.2.2.2.2.2.1 bt1030.2.2.2.2.2.2.2.2.2.2.2.2).bind fun t1050 => (if (t1050 != t1009) = true then (some false) else ((laws_toMoment.f k a0_0 a0_1 a0_2 a0_3 a0_4 a0_5 a0_6 l0_7 a0_8 a0_9 a0_10 l0_11 l0_12).bind fun bt1051 => ((laws_eqMoment.f k bt1010.1 bt1010.2.1 bt1010.2.2.1 bt1010.2.2.2.1 bt1010.2.2.2.2.1 bt1010.2.2.2.2.2.1 bt1010.2.2.2.2.2.2.1 bt1010.2.2.2.2.2.2.2.1 bt1010.2.2.2.2.2.2.2.2.1 bt1010.2.2.2.2.2.2.2.2.2.1 bt1010.2.2.2.2.2.2.2.2.2.2.1 bt1010.2.2.2.2.2.2.2.2.2.2.2.1 bt1010.2.2.2.2.2.2.2.2.2.2.2.2 bt1051.1 bt1051.2.1 bt1051.2.2.1 bt1051.2.2.2.1 bt1051.2.2.2.2.1 bt1051.2.2.2.2.2.1 bt1051.2.2.2.2.2.2.1 bt1051.2.2.2.2.2.2.2.1 bt1051.2.2.2.2.2.2.2.2.1 bt1051.2.2.2.2.2.2.2.2.2.1 bt1051.2.2.2.2.2.2.2.2.2.2.1 bt1051.2.2.2.2.2.2.2.2.2.2.2.1 bt1051.2.2.2.2.2.2.2.2.2.2.2.2).bind fun t1070 => (if t1070 = true then ((laws_toMoment.f k a1_0 a1_1 a1_2 a1_3 a1_4 a1_5 a1_6 l1_7 a1_8 a1_9 a1_10 l1_11 l1_12).bind fun bt1071 => ((laws_eqMoment.f k bt1030.1 bt1030.2.1 bt1030.2.2.1 bt1030.2.2.2.1 bt1030.2.2.2.2.1 bt1030.2.2.2.2.2.1 bt1030.2.2.2.2.2.2.1 bt1030.2.2.2.2.2.2.2.1 bt1030.2.2.2.2.2.2.2.2.1 bt1030.2.2.2.2.2.2.2.2.2.1 bt1030.2.2.2.2.2.2.2.2.2.2.1 bt1030.2.2.2.2.2.2.2.2.2.2.2.1 bt1030.2.2.2.2.2.2.2.2.2.2.2.2 bt1071.1 bt1071.2.1 bt1071.2.2.1 bt1071.2.2.2.1 bt1071.2.2.2.2.1 bt1071.2.2.2.2.2.1 bt1071.2.2.2.2.2.2.1 bt1071.2.2.2.2.2.2.2.1 bt1071.2.2.2.2.2.2.2.2.1 bt1071.2.2.2.2.2.2.2.2.2.1 bt1071.2.2.2.2.2.2.2.2.2.2.1 bt1071.2.2.2.2.2.2.2.2.2.2.2.1 bt1071.2.2.2.2.2.2.2.2.2.2.2.2).bind fun t1090 => (if t1090 = true then (some true) else (some false)))) else (some false))))))))) = some true := H
      have A20 := Aside0.mk A200
      clear A200
      replace H := Option.bind_eq_some_iff.mp H
      obtain ⟨t1009, A210, H⟩ := H
      replace H : ((laws_toMoment.f k a0_0 a0_1 a0_2 a0_3 a0_4 a0_5 a0_6 l0_7 a0_8 a0_9 a0_10 l0_11 l0_12).bind fun bt1010 => ((laws_toMoment.f k a1_0 a1_1 a1_2 a1_3 a1_4 a1_5 a1_6 l1_7 a1_8 a1_9 a1_10 l1_11 l1_12).bind fun bt1030 => ((impl_SameMoment.f k bt1010.1 bt1010.2.1 bt1010.2.2.1 bt1010.2.2.2.1 bt1010.2.2.2.2.1 bt1010.2.2.2.2.2.1 bt1010.2.2.2.2.2.2.1 bt1010.2.2.2.2.2.2.2.1 bt1010.2.2.2.2.2.2.2.2.1 bt1010.2.2.2.2.2.2.2.2.2.1 bt1010.2.2.2.2.2.2.2.2.2.2.1 bt1010.2.2.2.2.2.2.2.2.2.2.2.1 bt1010.2.2.2.2.2.2.2.2.2.2.2.2 bt1030.1 bt1030.2.1 bt1030.2.2.1 bt1030.2.2.2.1 bt1030.2.2.2.2.1 bt1030.2.2.2.2.2.1 bt1030.2.2.2.2.2.2.1 bt1030.2.2.2.2.2.2.2.1 bt1030.2.2.2.2.2.2.2.2.1 bt1030.2.2.2.2.2.2.2.2.2.1 bt1030.2.2.2.2.2.2.2.2.2.2.1 bt1030.2.2.2.2.2.2.2.2.2.2.2.1 bt1030.2.2.2.2.2.2.2.2.2.2.2.2).bind fun t1050 => (if (t1050 != t1009) = true then (some false) else ((laws_toMoment.f k a0_0 a0_1 a0_2 a0_3 a0_4 a0_5 a0_6 l0_7 a0_8 a0_9 a0_10 l0_11 l0_12).bind fun bt1051 => ((laws_eqMoment.f k bt1010.1 bt1010.2.1 bt1010.2.2.1 bt1010.2.2.2.1 bt1010.2.2.2.2.1 bt1010.2.2.2.2.2.1 bt1010.2.2.2.2.2.2.1 bt1010.2.2.2.2.2.2.2.1 bt1010.2.2.2.2.2.2.2.2.1 bt1010.2.2.2.2.2.2.2.2.2.1 bt1010.2.2.2.2.2.2.2.2.2.2.1 bt1010.2.2.2.2.2.2.2.2.2.2.2.1 bt1010.2.2.2.2.2.2.2.2.2.2.2.2 bt1051.1 bt1051.2.1 bt1051.2.2.1 bt1051.2.2.2.1 bt1051.2.2.2.2.1 bt1051.2.2.2.2.2.1 bt1051.2.2.2.2.2.2.1 bt1051.2.2.2.2.2.2.2.1 bt1051.2.2.2.2.2.2.2.2.1 bt1051.2.2.2.2.2.2.2.2.2.1 bt1051.2.2.2.2.2.2.2.2.2.2.1 bt1051.2.2.2.2.2.2.2.2.2.2.2.1 bt1051.2.2.2.2.2.2.2.2.2.2.2.2).bind fun t1070 => (if t1070 = true then ((laws_toMoment.f k a1_0 a1_1 a1_2 a1_3 a1_4 a1_5 a1_6 l1_7 a1_8 a1_9 a1_10 l1_11 l1_12).bind fun bt1071 => ((laws_eqMoment.f k bt1030.1 bt1030.2.1 bt1030.2.2.1 bt1030.2.2.2.1 bt1030.2.2.2.2.1 bt1030.2.2.2.2.2.1 bt1030.2.2.2.2.2.2.1 bt1030.2.2.2.2.2.2.2.1 bt1030.2.2.2.2.2.2.2.2.1 bt1030.2.2.2.2.2.2.2.2.2.1 bt1030.2.2.2.2.2.2.2.2.2.2.1 bt1030.2.2.2.2.2.2.2.2.2.2.2.1 bt1030.2.2.2.2.2.2.2.2.2.2.2.2 bt1071.1 bt1071.2.1 bt1071.2.2.1 bt1071.2.2.2.1 bt1071.2.2.2.2.1 bt1071.2.2.2.2.2.1 bt1071.2.2.2.2.2.2.1 bt1071.2.2.2.2.2.2.2.1 bt1071.2.2.2.2.2.2.2.2.1 bt1071.2.2.2.2.2.2.2.2.2.1 bt1071.2.2.2.2.2.2.2.2.2.2.1 bt1071.2.2.2.2.2.2.2.2.2.2.2.1 bt1071.2.2.2.2.2.2.2.2.2.2.2.2).bind fun t1090 => (if t1090 = true then (some true) else (some false)))) else (some false)))))))) = some true := H
      have A21 := Aside0.mk A210
      clear A210
      replace H := Option.bind_eq_some_iff.mp H
      obtain ⟨⟨t1010, t1011, t1012, t1013, t1014, t1015, t1016, t1017, t1020, t1021, t1022, t1023, t1026⟩, A220, H⟩ := H
      replace H : ((laws_toMoment.f k a1_0 a1_1 a1_2 a1_3 a1_4 a1_5 a1_6 l1_7 a1_8 a1_9 a1_10 l1_11 l1_12).bind fun bt1030 => ((impl_SameMoment.f k t1010 t1011 t1012 t1013 t1014 t1015 t1016 t1017 t1020 t1021 t1022 t1023 t1026 bt1030.1 bt1030.2.1 bt1030.2.2.1 bt1030.2.2.2.1 bt1030.2.2.2.2.1 bt1030.2.2.2.2.2.1 bt1030.2.2.2.2.2.2.1 bt1030.2.2.2.2.2.2.2.1 bt1030.2.2.2.2.2.2.2.2.1 bt1030.2.2.2.2.2.2.2.2.2.1 bt1030.2.2.2.2.2.2.2.2.2.2.1 bt1030.2.2.2.2.2.2.2.2.2.2.2.1 bt1030.2.2.2.2.2.2.2.2.2.2.2.2).bind fun t1050 => (if (t1050 != t1009) = true then (some false) else ((laws_toMoment.f k a0_0 a0_1 a0_2 a0_3 a0_4 a0_5 a0_6 l0_7 a0_8 a0_9 a0_10 l0_11 l0_12).bind fun bt1051 => ((laws_eqMoment.f k t1010 t1011 t1012 t1013 t1014 t1015 t1016 t1017 t1020 t1021 t1022 t1023 t1026 bt1051.1 bt1051.2.1 bt1051.2.2.1 bt1051.2.2.2.1 bt1051.2.2.2.2.1 bt1051.2.2.2.2.2.1 bt1051.2.2.2.2.2.2.1 bt1051.2.2.2.2.2.2.2.1 bt1051.2.2.2.2.2.2.2.2.1 bt1051.2.2.2.2.2.2.2.2.2.1 bt1051.2.2.2.2.2.2.2.2.2.2.1 bt1051.2.2.2.2.2.2.2.2.2.2.2.1 bt1051.2.2.2.2.2.2.2.2.2.2.2.2).bind fun t1070 => (if t1070 = true then ((laws_toMoment.f k a1_0 a1_1 a1_2 a1_3 a1_4 a1_5 a1_6 l1_7 a1_8 a1_9 a1_10 l1_11 l1_12).bind fun bt1071 => ((laws_eqMoment.f k bt1030.1 bt1030.2.1 bt1030.2.2.1 bt1030.2.2.2.1 bt1030.2.2.2.2.1 bt1030.2.2.2.2.2.1 bt1030.2.2.2.2.2.2.1 bt1030.2.2.2.2.2.2.2.1 bt1030.2.2.2.2.2.2.2.2.1 bt1030.2.2.2.2.2.2.2.2.2.1 bt1030.2.2.2.2.2.2.2.2.2.2.1 bt1030.2.2.2.2.2.2.2.2.2.2.2.1 bt1030.2.2.2.2.2.2.2.2.2.2.2.2 bt1071.1 bt1071.2.1 bt1071.2.2.1 bt1071.2.2.2.1 bt1071.2.2.2.2.1 bt1071.2.2.2.2.2.1 bt1071.2.2.2.2.2.2.1 bt1071.2.2.2.2.2.2.2.1 bt1071.2.2.2.2.2.2.2.2.1 bt1071.2.2.2.2.2.2.2.2.2.1 bt1071.2.2.2.2.2.2.2.2.2.2.1 bt1071.2.2.2.2.2.2.2.2.2.2.2.1 bt1071.2.2.2.2.2.2.2.2.2.2.2.2).bind fun t1090 => (if t1090 = true then (some true) else (some false)))) else (some false))))))) = some true := H
      have A22 := Aside0.mk A220
      clear A220
      replace H := Option.bind_eq_some_iff.mp H
      obtain ⟨⟨t1030, t1031, t1032, t1033, t1034, t1035, t1036, t1037, t1040, t1041, t1042, t1043, t1046⟩, A230, H⟩ := H
      replace H : ((impl_SameMoment.f k t1010 t1011 t1012 t1013 t1014 t1015 t1016 t1017 t1020 t1021 t1022 t1023 t1026 t1030 t1031 t1032 t1033 t1034 t1035 t1036 t1037 t1040 t1041 t1042 t1043 t1046).bind fun t1050 => (if (t1050 != t1009) = true then (some false) else ((laws_toMoment.f k a0_0 a0_1 a0_2 a0_3 a0_4 a0_5 a0_6 l0_7 a0_8 a0_9 a0_10 l0_11 l0_12).bind fun bt1051 => ((laws_eqMoment.f k t1010 t1011 t1012 t1013 t1014 t1015 t1016 t1017 t1020 t1021 t1022 t1023 t1026 bt1051.1 bt1051.2.1 bt1051.2.2.1 bt1051.2.2.2.1 bt1051.2.2.2.2.1 bt1051.2.2.2.2.2.1 bt1051.2.2.2.2.2.2.1 bt1051.2.2.2.2.2.2.2.1 bt1051.2.2.2.2.2.2.2.2.1 bt1051.2.2.2.2.2.2.2.2.2.1 bt1051.2.2.2.2.2.2.2.2.2.2.1 bt1051.2.2.2.2.2.2.2.2.2.2.2.1 bt1051.2.2.2.2.2.2.2.2.2.2.2.2).bind fun t1070 => (if t1070 = true then ((laws_toMoment.f k a1_0 a1_1 a1_2 a1_3 a1_4 a1_5 a1_6 l1_7 a1_8 a1_9 a1_10 l1_11 l1_12).bind fun bt1071 => ((laws_eqMoment.f k t1030 t1031 t1032 t1033 t1034 t1035 t1036 t1037 t1040 t1041 t1042 t1043 t1046 bt1071.1 bt1071.2.1 bt1071.2.2.1 bt1071.2.2.2.1 bt1071.2.2.2.2.1 bt1071.2.2.2.2.2.1 bt1071.2.2.2.2.2.2.1 bt1071.2.2.2.2.2.2.2.1 bt1071.2.2.2.2.2.2.2.2.1 bt1071.2.2.2.2.2.2.2.2.2.1 bt1071.2.2.2.2.2.2.2.2.2.2.1 bt1071.2.2.2.2.2.2.2.2.2.2.2.1 bt1071.2.2.2.2.2.2.2.2.2.2.2.2).bind fun t1090 => (if t1090 = true then (some true) else (some false)))) else (some false)))))) = some true := H
      have A23 := Aside0.mk A230
      clear A230
      replace H := Option.bind_eq_some_iff.mp H
      obtain ⟨t1050, A240, H⟩ := H
      replace H : (if (t1050 != t1009) = true then (some false) else ((laws_toMoment.f k a0_0 a0_1 a0_2 a0_3 a0_4 a0_5 a0_6 l0_7 a0_8 a0_9 a0_10 l0_11 l0_12).bind fun bt1051 => ((laws_eqMoment.f k t1010 t1011 t1012 t1013 t1014 t1015 t1016 t1017 t1020 t1021 t1022 t1023 t1026 bt1051.1 bt1051.2.1 bt1051.2.2.1 bt1051.2.2.2.1 bt1051.2.2.2.2.1 bt1051.2.2.2.2.2.1 bt1051.2.2.2.2.2.2.1 bt1051.2.2.2.2.2.2.2.1 bt1051.2.2.2.2.2.2.2.2.1 bt1051.2.2.2.2.2.2.2.2.2.1 bt1051.2.2.2.2.2.2.2.2.2.2.1 bt1051.2.2.2.2.2.2.2.2.2.2.2.1 bt1051.2.2.2.2.2.2.2.2.2.2.2.2).bind fun t1070 => (if t1070 = true then ((laws_toMoment.f k a1_0 a1_1 a1_2 a1_3 a1_4 a1_5 a1_6 l1_7 a1_8 a1_9 a1_10 l1_11 l1_12).bind fun bt1071 => ((laws_eqMoment.f k t1030 t1031 t1032 t1033 t1034 t1035 t1036 t1037 t1040 t1041 t1042 t1043 t1046 bt1071.1 bt1071.2.1 bt1071.2.2.1 bt1071.2.2.2.1 bt1071.2.2.2.2.1 bt1071.2.2.2.2.2.1 bt1071.2.2.2.2.2.2.1 bt1071.2.2.2.2.2.2.2.1 bt1071.2.2.2.2.2.2.2.2.1 bt1071.2.2.2.2.2.2.2.2.2.1 bt1071.2.2.2.2.2.2.2.2.2.2.1 bt1071.2.2.2.2.2.2.2.2.2.2.2.1 bt1071.2.2.2.2.2.2.2.2.2.2.2.2).bind fun t1090 => (if t1090 = true then (some true) else (some false)))) else (some false))))) = some true := H
      have A24 := Aside0.mk A240
      clear A240
      by_cases c25 : (t1050 != t1009) = true
      · rw [if_pos c25] at H
        exact absurd H (by simp)
      · rw [if_neg c25] at H
        have c25b0 : (t1050 != t1009) = false := by simpa using c25
        (try (have c25b1 : decide (t1050 = t1009) = true := by simpa using c25))
        (try (have c25b2 : (t1050 == t1009) = true := by simpa using c25))
        clear c25
        replace H := Option.bind_eq_some_iff.mp H
        obtain ⟨⟨t1051, t1052, t1053, t1054, t1055, t1056, t1057, t1058, t1061, t1062, t1063, t1064, t1067⟩, A640, H⟩ := H
        replace H : ((laws_eqMoment.f k t1010 t1011 t1012 t1013 t1014 t1015 t1016 t1017 t1020 t1021 t1022 t1023 t1026 t1051 t1052 t1053 t1054 t1055 t1056 t1057 t1058 t1061 t1062 t1063 t1064 t1067).bind fun t1070 => (if t1070 = true then ((laws_toMoment.f k a1_0 a1_1 a1_2 a1_3 a1_4 a1_5 a1_6 l1_7 a1_8 a1_9 a1_10 l1_11 l1_12).bind fun bt1071 => ((laws_eqMoment.f k t1030 t1031 t1032 t1033 t1034 t1035 t1036 t1037 t1040 t1041 t1042 t1043 t1046 bt1071.1 bt1071.2.1 bt1071.2.2.1 bt1071.2.2.2.1 bt1071.2.2.2.2.1 bt1071.2.2.2.2.2.1 bt1071.2.2.2.2.2.2.1 bt1071.2.2.2.2.2.2.2.1 bt1071.2.2.2.2.2.2.2.2.1 bt1071.2.2.2.2.2.2.2.2.2.1 bt1071.2.2.2.2.2.2.2.2.2.2.1 bt1071.2.2.2.2.2.2.2.2.2.2.2.1 bt1071.2.2.2.2.2.2.2.2.2.2.2.2).bind fun t1090 => (if t1090 = true then (some true) else (some false)))) else (some false))) = some true := H
        have A64 := Aside0.mk A640
        clear A640
        replace H := Option.bind_eq_some_iff.mp H
        obtain ⟨t1070, A650, H⟩ := H
        replace H : (if t1070 = true then ((laws_toMoment.f k a1_0 a1_1 a1_2 a1_3 a1_4 a1_5 a1_6 l1_7 a1_8 a1_9 a1_10 l1_11 l1_12).bind fun bt1071 => ((laws_eqMoment.f k t1030 t1031 t1032 t1033 t1034 t1035 t1036 t1037 t1040 t1041 t1042 t1043 t1046 bt1071.1 bt1071.2.1 bt1071.2.2.1 bt1071.2.2.2.1 bt1071.2.2.2.2.1 bt1071.2.2.2.2.2.1 bt1071.2.2.2.2.2.2.1 bt1071.2.2.2.2.2.2.2.1 bt1071.2.2.2.2.2.2.2.2.1 bt1071.2.2.2.2.2.2.2.2.2.1 bt1071.2.2.2.2.2.2.2.2.2.2.1 bt1071.2.2.2.2.2.2.2.2.2.2.2.1 bt1071.2.2.2.2.2.2.2.2.2.2.2.2).bind fun t1090 => (if t1090 = true then (some true) else (some false)))) else (some false)) = some true := H
        have A65 := Aside0.mk A650
        clear A650
        by_cases c66 : t1070 = true
        · subst c66
          have H1 : ((laws_toMoment.f k a1_0 a1_1 a1_2 a1_3 a1_4 a1_5 a1_6 l1_7 a1_8 a1_9 a1_10 l1_11 l1_12).bind fun bt1071 => ((laws_eqMoment.f k t1030 t1031 t1032 t1033 t1034 t1035 t1036 t1037 t1040 t1041 t1042 t1043 t1046 bt1071.1 bt1071.2.1 bt1071.2.2.1 bt1071.2.2.2.1 bt1071.2.2.2.2.1 bt1071.2.2.2.2.2.1 bt1071.2.2.2.2.2.2.1 bt1071.2.2.2.2.2.2.2.1 bt1071.2.2.2.2.2.2.2.2.1 bt1071.2.2.2.2.2.2.2.2.2.1 bt1071.2.2.2.2.2.2.2.2.2.2.1 bt1071.2.2.2.2.2.2.2.2.2.2.2.1 bt1071.2.2.2.2.2.2.2.2.2.2.2.2).bind fun t1090 => (if t1090 = true then (some true) else (some false)))) = some true := by rw [if_pos rfl] at H; exact H
          clear H
          have H := H1
          clear H1
          replace H := Option.bind_eq_some_iff.mp H
          obtain ⟨⟨t1071, t1072, t1073, t1074, t1075, t1076, t1077, t1078, t1081, t1082, t1083, t1084, t1087⟩, A670, H⟩ := H
          replace H : ((laws_eqMoment.f k t1030 t1031 t1032 t1033 t1034 t1035 t1036 t1037 t1040 t1041 t1042 t1043 t1046 t1071 t1072 t1073 t1074 t1075 t1076 t1077 t1078 t1081 t1082 t1083 t1084 t1087).bind fun t1090 => (if t1090 = true then (some true) else (some false))) = some true := H
          have A67 := Aside0.mk A670
          clear A670
          replace H := Option.bind_eq_some_iff.mp H
          obtain ⟨t1090, A680, H⟩ := H
          replace H : (if t1090 = true then (some true) else (some false)) = some true := H
          have A68 := Aside0.mk A680
          clear A680
          by_cases c69 : t1090 = true
          · subst c69
            have H1 : (some true) = some true := rfl
            clear H
            have H := H1
            clear H1
            clear H
            go_enter Try.func11, Try.ntmps11
            try go_wp2_with (first | ((with_reducible refine gate_dst (N := 2) rfl ?_); refine bE (N := 2) (cs := #[.int .i64 a0_0, .int .i64 a0_1, .int .i64 a0_2, .int .i64 a0_3, .int .i64 a0_4, .string a0_5, .string a0_6, .slice A0_7 l0_7.length c0_7, .int .i64 a0_8, .int .i64 a0_9, .int .i64 a0_10, .slice A0_11 l0_11.length c0_11, .slice A0_12 l0_12.length c0_12]) (t := 83) ?_; intro gb967 hg w70 hbox hb; have n0_ := Aside0.mk (below_step (w := w) bW hb); have n1_ := Aside0.mk (hbox); have n2_ := Aside0.mk (gS (w := w) hg); have n3_ := n2_; clear HB; have HB := n0_; have BK967 := n1_; have GW967 := n2_; have GE967 := n3_; clear n0_ n1_ n2_ n3_; clear hb hbox hg) | ((with_reducible refine gate_dst (N := 3) rfl ?_); refine bE (N := 3) (cs := #[.int .i64 a1_0, .int .i64 a1_1, .int .i64 a1_2, .int .i64 a1_3, .int .i64 a1_4, .string a1_5, .string a1_6, .slice A1_7 l1_7.length c1_7, .int .i64 a1_8, .int .i64 a1_9, .int .i64 a1_10, .slice A1_11 l1_11.length c1_11, .slice A1_12 l1_12.length c1_12]) (t := 83) ?_; intro gb968 hg w71 hbox hb; have n0_ := Aside0.mk (kb BK967 hb); have n1_ := Aside0.mk (below_step (w := w) bW hb); have n2_ := Aside0.mk (hbox); have n3_ := Aside0.mk (gS (w := w) hg); have n4_ := n3_; have n5_ := Aside0.mk (nL BK967 hg); have n6_ := Aside0.mk (nG BK967 hg); clear BK967; clear HB; have BK967 := n0_; have HB := n1_; have BK968 := n2_; have GW968 := n3_; have GE968 := n4_; have NB967_968 := n5_; have NB968_967 := n6_; clear n0_ n1_ n2_ n3_ n4_ n5_ n6_; clear hb hbox hg; have hnb72 := NB967_968.out; have hnc72 := NB968_967.out; obtain ⟨hcz73_0, hcz73_1, hcz73_2, hcz73_3, hcz73_4, hcz73_5, hcz73_6, hcz73_7, hcz73_8, hcz73_9, hcz73_10, hcz73_11, hcz73_12⟩ := cz13 BK967; obtain ⟨hfz73_0, hfz73_1, hfz73_2, hfz73_3, hfz73_4, hfz73_5, hfz73_6, hfz73_7, hfz73_8, hfz73_9, hfz73_10, hfz73_11, hfz73_12⟩ := fz13 BK967) | ((with_reducible refine gate_callee (f := 50) rfl ?_); refine goesL_ (some 12) rfl rfl Try.func50 (by kernel_rfl) rfl #[.agg #[.int .i64 a0_0, .int .i64 a0_1, .int .i64 a0_2, .int .i64 a0_3, .int .i64 a0_4, .string a0_5, .string a0_6, .slice A0_7 l0_7.length c0_7, .int .i64 a0_8, .int .i64 a0_9, .int .i64 a0_10, .slice A0_11 l0_11.length c0_11, .slice A0_12 l0_12.length c0_12], .int .i64 1048576] rfl gA ?_; (with_reducible refine (laws_szMoment.calls k a0_0 a0_1 a0_2 a0_3 a0_4 a0_5 a0_6 _ _ l0_7 a0_8 a0_9 a0_10 _ _ l0_11 _ _ l0_12 1048576 t969 _ ?side1 ?side2 ?side3 ?side4 ?side5 ?side6 A3.out).mono ?_); (case side1 => exact cB HR0_7); (case side2 => exact HC0_7.out); (case side3 => exact cB HR0_11); (case side4 => exact HC0_11.out); (case side5 => exact cB HR0_12); (case side6 => exact HC0_12.out); rintro e w74 ⟨rfl, hb⟩; refine ⟨_, rfl, ?_⟩; have n0_ := Aside0.mk (kb BK967 hb); have n1_ := Aside0.mk (kb BK968 hb); have n2_ := Aside0.mk (below_step (w := w) bW hb); clear BK967; clear BK968; clear HB; have BK967 := n0_; have BK968 := n1_; have HB := n2_; clear n0_ n1_ n2_; (try clear hb); (try clear hb2); (try clear hk); (try clear hi); obtain ⟨hcz75_0, hcz75_1, hcz75_2, hcz75_3, hcz75_4, hcz75_5, hcz75_6, hcz75_7, hcz75_8, hcz75_9, hcz75_10, hcz75_11, hcz75_12⟩ := cz13 BK968; obtain ⟨hfz75_0, hfz75_1, hfz75_2, hfz75_3, hfz75_4, hfz75_5, hfz75_6, hfz75_7, hfz75_8, hfz75_9, hfz75_10, hfz75_11, hfz75_12⟩ := fz13 BK968) | ((with_reducible refine gate_callee (f := 50) rfl ?_); refine goesL_ (some 17) rfl rfl Try.func50 (by kernel_rfl) rfl #[.agg #[.int .i64 a1_0, .int .i64 a1_1, .int .i64 a1_2, .int .i64 a1_3, .int .i64 a1_4, .string a1_5, .string a1_6, .slice A1_7 l1_7.length c1_7, .int .i64 a1_8, .int .i64 a1_9, .int .i64 a1_10, .slice A1_11 l1_11.length c1_11, .slice A1_12 l1_12.length c1_12], .int .i64 t969] rfl gA ?_; (with_reducible refine (laws_szMoment.calls k a1_0 a1_1 a1_2 a1_3 a1_4 a1_5 a1_6 _ _ l1_7 a1_8 a1_9 a1_10 _ _ l1_11 _ _ l1_12 t969 t970 _ ?side1 ?side2 ?side3 ?side4 ?side5 ?side6 A10.out).mono ?_); (case side1 => exact cB HR1_7); (case side2 => exact HC1_7.out); (case side3 => exact cB HR1_11); (case side4 => exact HC1_11.out); (case side5 => exact cB HR1_12); (case side6 => exact HC1_12.out); rintro e w76 ⟨rfl, hb⟩; refine ⟨_, rfl, ?_⟩; have n0_ := Aside0.mk (kb BK967 hb); have n1_ := Aside0.mk (kb BK968 hb); have n2_ := Aside0.mk (below_step (w := w) bW hb); clear BK967; clear BK968; clear HB; have BK967 := n0_; have BK968 := n1_; have HB := n2_; clear n0_ n1_ n2_; (try clear hb); (try clear hb2); (try clear hk); (try clear hi)))
            have n0_ := Aside0.mk (blk_drew BK967.out)
            have n1_ := Aside0.mk (blk_drew BK968.out)
            have n2_ := Aside0.mk (below_drew1 HB.out)
            clear BK967
            clear BK968
            clear HB
            have BK967 := n0_
            have BK968 := n1_
            have HB := n2_
            clear n0_ n1_ n2_
            refine start_ (n := 6) (S := fun w' => w'.cell? ⟨gb967, 0, none⟩ = some (.int .i64 a0_0) ∧ w'.cell? ⟨gb967, 1, none⟩ = some (.int .i64 a0_1) ∧ w'.cell? ⟨gb967, 2, none⟩ = some (.int .i64 a0_2) ∧ w'.cell? ⟨gb967, 3, none⟩ = some (.int .i64 a0_3) ∧ w'.cell? ⟨gb967, 4, none⟩ = some (.int .i64 a0_4) ∧ w'.cell? ⟨gb967, 5, none⟩ = some (.string a0_5) ∧ w'.cell? ⟨gb967, 6, none⟩ = some (.string a0_6) ∧ w'.cell? ⟨gb967, 7, none⟩ = some (.slice A0_7 l0_7.length c0_7) ∧ w'.cell? ⟨gb967, 8, none⟩ = some (.int .i64 a0_8) ∧ w'.cell? ⟨gb967, 9, none⟩ = some (.int .i64 a0_9) ∧ w'.cell? ⟨gb967, 10, none⟩ = some (.int .i64 a0_10) ∧ w'.cell? ⟨gb967, 11, none⟩ = some (.slice A0_11 l0_11.length c0_11) ∧ w'.cell? ⟨gb967, 12, none⟩ = some (.slice A0_12 l0_12.length c0_12) ∧ w'.cell? ⟨gb968, 0, none⟩ = some (.int .i64 a1_0) ∧ w'.cell? ⟨gb968, 1, none⟩ = some (.int .i64 a1_1) ∧ w'.cell? ⟨gb968, 2, none⟩ = some (.int .i64 a1_2) ∧ w'.cell? ⟨gb968, 3, none⟩ = some (.int .i64 a1_3) ∧ w'.cell? ⟨gb968, 4, none⟩ = some (.int .i64 a1_4) ∧ w'.cell? ⟨gb968, 5, none⟩ = some (.string a1_5) ∧ w'.cell? ⟨gb968, 6, none⟩ = some (.string a1_6) ∧ w'.cell? ⟨gb968, 7, none⟩ = some (.slice A1_7 l1_7.length c1_7) ∧ w'.cell? ⟨gb968, 8, none⟩ = some (.int .i64 a1_8) ∧ w'.cell? ⟨gb968, 9, none⟩ = some (.int .i64 a1_9) ∧ w'.cell? ⟨gb968, 10, none⟩ = some (.int .i64 a1_10) ∧ w'.cell? ⟨gb968, 11, none⟩ = some (.slice A1_11 l1_11.length c1_11) ∧ w'.cell? ⟨gb968, 12, none⟩ = some (.slice A1_12 l1_12.length c1_12)) (ds := []) #[false, false, false, false, false, false] (by kernel_rfl) rfl rfl ⟨(blk_cell BK967.out 0).trans rfl, (blk_cell BK967.out 1).trans rfl, (blk_cell BK967.out 2).trans rfl, (blk_cell BK967.out 3).trans rfl, (blk_cell BK967.out 4).trans rfl, (blk_cell BK967.out 5).trans rfl, (blk_cell BK967.out 6).trans rfl, (blk_cell BK967.out 7).trans rfl, (blk_cell BK967.out 8).trans rfl, (blk_cell BK967.out 9).trans rfl, (blk_cell BK967.out 10).trans rfl, (blk_cell BK967.out 11).trans rfl, (blk_cell BK967.out 12).trans rfl, (blk_cell BK968.out 0).trans rfl, (blk_cell BK968.out 1).trans rfl, (blk_cell BK968.out 2).trans rfl, (blk_cell BK968.out 3).trans rfl, (blk_cell BK968.out 4).trans rfl, (blk_cell BK968.out 5).trans rfl, (blk_cell BK968.out 6).trans rfl, (blk_cell BK968.out 7).trans rfl, (blk_cell BK968.out 8).trans rfl, (blk_cell BK968.out 9).trans rfl, (blk_cell BK968.out 10).trans rfl, (blk_cell BK968.out 11).trans rfl, (blk_cell BK968.out 12).trans rfl⟩ (fun hHeld => ?_)
            generalize w76.drew = w77 at BK967 BK968 HB hHeld ⊢
            refine take_ (i := 0) (N := some 20) (v := ?_) (a' := ?_) #[true, false, false, false, false, false] rfl rfl (by kernel_rfl) (fun _ _ _ h => h) (Or.inl ⟨by rfl, ?_⟩) hHeld ?_ ?_
            rotate_left
            · rintro w' ⟨s0, s1, s2, s3, s4, s5, s6, s7, s8, s9, s10, s11, s12, s13, s14, s15, s16, s17, s18, s19, s20, s21, s22, s23, s24, s25⟩
              go_simp
              with_reducible rfl
            rotate_left
            · simp only [Act.put, List.setIfInBounds_toArray, List.set_cons_zero, List.set_cons_succ, i64_w, i32_w]
              rfl
            refine take_ (i := 2) (N := some 22) (v := ?_) (a' := ?_) #[true, false, true, false, false, false] rfl rfl (by kernel_rfl) (fun _ _ _ h => h) (Or.inl ⟨by rfl, ?_⟩) hHeld ?_ ?_
            rotate_left
            · rintro w' ⟨s0, s1, s2, s3, s4, s5, s6, s7, s8, s9, s10, s11, s12, s13, s14, s15, s16, s17, s18, s19, s20, s21, s22, s23, s24, s25⟩
              go_simp
              with_reducible rfl
            rotate_left
            · simp only [Act.put, List.setIfInBounds_toArray, List.set_cons_zero, List.set_cons_succ, i64_w, i32_w]
              rfl
            refine one_ (i := 1) (N := some 21) #[true, true, true, false, false, false] rfl rfl (by kernel_rfl) (by decide) (fun K hK => ?_)
            refine goes_ Try.func52 (by kernel_rfl) rfl #[.agg #[.int .i64 a0_0, .int .i64 a0_1, .int .i64 a0_2, .int .i64 a0_3, .int .i64 a0_4, .string a0_5, .string a0_6, .slice A0_7 l0_7.length c0_7, .int .i64 a0_8, .int .i64 a0_9, .int .i64 a0_10, .slice A0_11 l0_11.length c0_11, .slice A0_12 l0_12.length c0_12]] (by rfl) rfl rfl gA ?_
            with_reducible refine (laws_toMoment.calls k a0_0 a0_1 a0_2 a0_3 a0_4 a0_5 a0_6 _ _ l0_7 a0_8 a0_9 a0_10 _ _ l0_11 _ _ l0_12 t971 t972 t973 t974 t975 t976 t977 t978 t981 t982 t983 t984 t987 _ ?side1 ?side2 ?side3 ?side4 ?side5 ?side6 A19.out).mono ?_
            (case side1 => exact cB HR0_7)
            (case side2 => exact HC0_7.out)
            (case side3 => exact cB HR0_11)
            (case side4 => exact HC0_11.out)
            (case side5 => exact cB HR0_12)
            (case side6 => exact HC0_12.out)
            rintro e w78 ⟨v979, v985, v988, rfl, ho0, ho1, ho2, hb⟩
            refine ⟨_, rfl, ?_⟩
            have n0_ := Aside0.mk (Kd.R_lower ho0 (below_size (w := w) bW))
            have n1_ := Aside0.mk (Kd.R_lower ho1 (below_size (w := w) bW))
            have n2_ := Aside0.mk (Kd.R_lower ho2 (below_size (w := w) bW))
            have n3_ := Aside0.mk (kb BK967 hb)
            have n4_ := Aside0.mk (kb BK968 hb)
            have n5_ := Aside0.mk (below_step (w := w) bW hb)
            clear BK967
            clear BK968
            clear HB
            have HO980 := n0_
            have HO986 := n1_
            have HO989 := n2_
            have BK967 := n3_
            have BK968 := n4_
            have HB := n5_
            clear n0_ n1_ n2_ n3_ n4_ n5_
            (try clear hb)
            (try clear hb2)
            (try clear hk)
            (try clear hi)
            (try clear ho0)
            (try clear ho1)
            (try clear ho2)
            refine hK.out _ _ ⟨(blk_cell BK967.out 0).trans rfl, (blk_cell BK967.out 1).trans rfl, (blk_cell BK967.out 2).trans rfl, (blk_cell BK967.out 3).trans rfl, (blk_cell BK967.out 4).trans rfl, (blk_cell BK967.out 5).trans rfl, (blk_cell BK967.out 6).trans rfl, (blk_cell BK967.out 7).trans rfl, (blk_cell BK967.out 8).trans rfl, (blk_cell BK967.out 9).trans rfl, (blk_cell BK967.out 10).trans rfl, (blk_cell BK967.out 11).trans rfl, (blk_cell BK967.out 12).trans rfl, (blk_cell BK968.out 0).trans rfl, (blk_cell BK968.out 1).trans rfl, (blk_cell BK968.out 2).trans rfl, (blk_cell BK968.out 3).trans rfl, (blk_cell BK968.out 4).trans rfl, (blk_cell BK968.out 5).trans rfl, (blk_cell BK968.out 6).trans rfl, (blk_cell BK968.out 7).trans rfl, (blk_cell BK968.out 8).trans rfl, (blk_cell BK968.out 9).trans rfl, (blk_cell BK968.out 10).trans rfl, (blk_cell BK968.out 11).trans rfl, (blk_cell BK968.out 12).trans rfl⟩ (fun hHeld => ?_)
            clear hK K
            refine norm_ (a' := ?_) ?_ ?_
            rotate_left
            · show Act.put _ (some 21) _ = _
              simp only [Act.put, List.setIfInBounds_toArray, List.set_cons_zero, List.set_cons_succ, i64_w, i32_w]
              rfl
            refine one_ (i := 3) (N := some 23) #[true, true, true, true, false, false] rfl rfl (by kernel_rfl) (by decide) (fun K hK => ?_)
            refine goes_ Try.func52 (by kernel_rfl) rfl #[.agg #[.int .i64 a1_0, .int .i64 a1_1, .int .i64 a1_2, .int .i64 a1_3, .int .i64 a1_4, .string a1_5, .string a1_6, .slice A1_7 l1_7.length c1_7, .int .i64 a1_8, .int .i64 a1_9, .int .i64 a1_10, .slice A1_11 l1_11.length c1_11, .slice A1_12 l1_12.length c1_12]] (by rfl) rfl rfl gA ?_
            with_reducible refine (laws_toMoment.calls k a1_0 a1_1 a1_2 a1_3 a1_4 a1_5 a1_6 _ _ l1_7 a1_8 a1_9 a1_10 _ _ l1_11 _ _ l1_12 t990 t991 t992 t993 t994 t995 t996 t997 t1000 t1001 t1002 t1003 t1006 _ ?side1 ?side2 ?side3 ?side4 ?side5 ?side6 A20.out).mono ?_
            (case side1 => exact cB HR1_7)
            (case side2 => exact HC1_7.out)
            (case side3 => exact cB HR1_11)
            (case side4 => exact HC1_11.out)
            (case side5 => exact cB HR1_12)
            (case side6 => exact HC1_12.out)
            rintro e w79 ⟨v998, v1004, v1007, rfl, ho0, ho1, ho2, hb⟩
            refine ⟨_, rfl, ?_⟩
            have n0_ := Aside0.mk (Kd.R_elder' (pR HO980) (Kd.R_base ho0) hb)
            have n1_ := Aside0.mk (Kd.R_elder' (pR HO986) (Kd.R_base ho1) hb)
            have n2_ := Aside0.mk (Kd.R_elder' (pR HO989) (Kd.R_base ho2) hb)
            have n3_ := Aside0.mk (Kd.R_lower (Kd.R_new' ho0 (Kd.R_lt (pR HO980))) (below_size (w := w) bW))
            have n4_ := Aside0.mk (Kd.R_lower (Kd.R_new' ho1 (Kd.R_lt (pR HO986))) (below_size (w := w) bW))
            have n5_ := Aside0.mk (Kd.R_lower (Kd.R_new' ho2 (Kd.R_lt (pR HO989))) (below_size (w := w) bW))
            have n6_ := Aside0.mk (kb BK967 hb)
            have n7_ := Aside0.mk (kb BK968 hb)
            have n8_ := Aside0.mk (below_step (w := w) bW hb)
            clear HO980
            clear HO986
            clear HO989
            clear BK967
            clear BK968
            clear HB
            have HO980 := n0_
            have HO986 := n1_
            have HO989 := n2_
            have HO999 := n3_
            have HO1005 := n4_
            have HO1008 := n5_
            have BK967 := n6_
            have BK968 := n7_
            have HB := n8_
            clear n0_ n1_ n2_ n3_ n4_ n5_ n6_ n7_ n8_
            (try clear hb)
            (try clear hb2)
            (try clear hk)
            (try clear hi)
            (try clear ho0)
            (try clear ho1)
            (try clear ho2)
            obtain ⟨Ao80, co80, eo80⟩ := Kd.R_slice HO980.out
            (first | subst eo80 | (injection eo80 with f1_ f2_ f3_; have f4_ := f1_.symm; have f5_ := f3_.symm; clear f1_ f2_ f3_; subst f4_; subst f5_))
            obtain ⟨Ao81, co81, eo81⟩ := Kd.R_slice HO986.out
            (first | subst eo81 | (injection eo81 with f1_ f2_ f3_; have f4_ := f1_.symm; have f5_ := f3_.symm; clear f1_ f2_ f3_; subst f4_; subst f5_))
            obtain ⟨Ao82, co82, eo82⟩ := Kd.R_slice HO989.out
            (first | subst eo82 | (injection eo82 with f1_ f2_ f3_; have f4_ := f1_.symm; have f5_ := f3_.symm; clear f1_ f2_ f3_; subst f4_; subst f5_))
            obtain ⟨Ao83, co83, eo83⟩ := Kd.R_slice HO999.out
            (first | subst eo83 | (injection eo83 with f1_ f2_ f3_; have f4_ := f1_.symm; have f5_ := f3_.symm; clear f1_ f2_ f3_; subst f4_; subst f5_))
            obtain ⟨Ao84, co84, eo84⟩ := Kd.R_slice HO1005.out
            (first | subst eo84 | (injection eo84 with f1_ f2_ f3_; have f4_ := f1_.symm; have f5_ := f3_.symm; clear f1_ f2_ f3_; subst f4_; subst f5_))
            obtain ⟨Ao85, co85, eo85⟩ := Kd.R_slice HO1008.out
            (first | subst eo85 | (injection eo85 with f1_ f2_ f3_; have f4_ := f1_.symm; have f5_ := f3_.symm; clear f1_ f2_ f3_; subst f4_; subst f5_))
            refine hK.out _ _ ⟨(blk_cell BK967.out 0).trans rfl, (blk_cell BK967.out 1).trans rfl, (blk_cell BK967.out 2).trans rfl, (blk_cell BK967.out 3).trans rfl, (blk_cell BK967.out 4).trans rfl, (blk_cell BK967.out 5).trans rfl, (blk_cell BK967.out 6).trans rfl, (blk_cell BK967.out 7).trans rfl, (blk_cell BK967.out 8).trans rfl, (blk_cell BK967.out 9).trans rfl, (blk_cell BK967.out 10).trans rfl, (blk_cell BK967.out 11).trans rfl, (blk_cell BK967.out 12).trans rfl, (blk_cell BK968.out 0).trans rfl, (blk_cell BK968.out 1).trans rfl, (blk_cell BK968.out 2).trans rfl, (blk_cell BK968.out 3).trans rfl, (blk_cell BK968.out 4).trans rfl, (blk_cell BK968.out 5).trans rfl, (blk_cell BK968.out 6).trans rfl, (blk_cell BK968.out 7).trans rfl, (blk_cell BK968.out 8).trans rfl, (blk_cell BK968.out 9).trans rfl, (blk_cell BK968.out 10).trans rfl, (blk_cell BK968.out 11).trans rfl, (blk_cell BK968.out 12).trans rfl⟩ (fun hHeld => ?_)
            clear hK K
            refine norm_ (a' := ?_) ?_ ?_
            rotate_left
            · show Act.put _ (some 23) _ = _
              simp only [Act.put, List.setIfInBounds_toArray, List.set_cons_zero, List.set_cons_succ, i64_w, i32_w]
              rfl
            refine one_ (i := 4) (N := some 24) #[true, true, true, true, true, false] rfl rfl (by kernel_rfl) (by decide) (fun K hK => ?_)
            refine goes_ Try.func51 (by kernel_rfl) rfl #[.agg #[.int .i64 t971, .int .i64 t972, .int .i64 t973, .int .i64 t974, .int .i64 t975, .string t976, .string t977, .slice Ao80 t978.length co80, .int .i64 t981, .int .i64 t982, .int .i64 t983, .slice Ao81 t984.length co81, .slice Ao82 t987.length co82], .agg #[.int .i64 t990, .int .i64 t991, .int .i64 t992, .int .i64 t993, .int .i64 t994, .string t995, .string t996, .slice Ao83 t997.length co83, .int .i64 t1000, .int .i64 t1001, .int .i64 t1002, .slice Ao84 t1003.length co84, .slice Ao85 t1006.length co85]] (by rfl) rfl rfl gA ?_
            with_reducible refine (spec_SameMoment.calls k t971 t972 t973 t974 t975 t976 t977 _ _ t978 t981 t982 t983 _ _ t984 _ _ t987 t990 t991 t992 t993 t994 t995 t996 _ _ t997 t1000 t1001 t1002 _ _ t1003 _ _ t1006 t1009 _ ?side1 ?side2 ?side3 ?side4 ?side5 ?side6 ?side7 ?side8 ?side9 ?side10 ?side11 ?side12 A21.out).mono ?_
            (case side1 => repeat (first | exact (Kd.R_reads' HO980.out).2.2 | (with_reducible refine Kd.C_alloc ?_ _) | (with_reducible refine Kd.C_drewN ?_ _) | (with_reducible refine Kd.C_drew ?_)))
            (case side2 => exact (Kd.R_reads' HO980.out).2.1)
            (case side3 => repeat (first | exact (Kd.R_reads' HO986.out).2.2 | (with_reducible refine Kd.C_alloc ?_ _) | (with_reducible refine Kd.C_drewN ?_ _) | (with_reducible refine Kd.C_drew ?_)))
            (case side4 => exact (Kd.R_reads' HO986.out).2.1)
            (case side5 => repeat (first | exact (Kd.R_reads' HO989.out).2.2 | (with_reducible refine Kd.C_alloc ?_ _) | (with_reducible refine Kd.C_drewN ?_ _) | (with_reducible refine Kd.C_drew ?_)))
            (case side6 => exact (Kd.R_reads' HO989.out).2.1)
            (case side7 => repeat (first | exact (Kd.R_reads' HO999.out).2.2 | (with_reducible refine Kd.C_alloc ?_ _) | (with_reducible refine Kd.C_drewN ?_ _) | (with_reducible refine Kd.C_drew ?_)))
            (case side8 => exact (Kd.R_reads' HO999.out).2.1)
            (case side9 => repeat (first | exact (Kd.R_reads' HO1005.out).2.2 | (with_reducible refine Kd.C_alloc ?_ _) | (with_reducible refine Kd.C_drewN ?_ _) | (with_reducible refine Kd.C_drew ?_)))
            (case side10 => exact (Kd.R_reads' HO1005.out).2.1)
            (case side11 => repeat (first | exact (Kd.R_reads' HO1008.out).2.2 | (with_reducible refine Kd.C_alloc ?_ _) | (with_reducible refine Kd.C_drewN ?_ _) | (with_reducible refine Kd.C_drew ?_)))
            (case side12 => exact (Kd.R_reads' HO1008.out).2.1)
            rintro e w86 ⟨rfl, hb⟩
            refine ⟨_, rfl, ?_⟩
            have n0_ := Aside0.mk (Kd.R_below (pR HO980) hb)
            have n1_ := Aside0.mk (Kd.R_below (pR HO986) hb)
            have n2_ := Aside0.mk (Kd.R_below (pR HO989) hb)
            have n3_ := Aside0.mk (Kd.R_below (pR HO999) hb)
            have n4_ := Aside0.mk (Kd.R_below (pR HO1005) hb)
            have n5_ := Aside0.mk (Kd.R_below (pR HO1008) hb)
            have n6_ := Aside0.mk (kb BK967 hb)
            have n7_ := Aside0.mk (kb BK968 hb)
            have n8_ := Aside0.mk (below_step (w := w) bW hb)
            clear HO980
            clear HO986
            clear HO989
            clear HO999
            clear HO1005
            clear HO1008
            clear BK967
            clear BK968
            clear HB
            have HO980 := n0_
            have HO986 := n1_
            have HO989 := n2_
            have HO999 := n3_
            have HO1005 := n4_
            have HO1008 := n5_
            have BK967 := n6_
            have BK968 := n7_
            have HB := n8_
            clear n0_ n1_ n2_ n3_ n4_ n5_ n6_ n7_ n8_
            (try clear hb)
            (try clear hb2)
            (try clear hk)
            (try clear hi)
            refine hK.out _ _ ⟨(blk_cell BK967.out 0).trans rfl, (blk_cell BK967.out 1).trans rfl, (blk_cell BK967.out 2).trans rfl, (blk_cell BK967.out 3).trans rfl, (blk_cell BK967.out 4).trans rfl, (blk_cell BK967.out 5).trans rfl, (blk_cell BK967.out 6).trans rfl, (blk_cell BK967.out 7).trans rfl, (blk_cell BK967.out 8).trans rfl, (blk_cell BK967.out 9).trans rfl, (blk_cell BK967.out 10).trans rfl, (blk_cell BK967.out 11).trans rfl, (blk_cell BK967.out 12).trans rfl, (blk_cell BK968.out 0).trans rfl, (blk_cell BK968.out 1).trans rfl, (blk_cell BK968.out 2).trans rfl, (blk_cell BK968.out 3).trans rfl, (blk_cell BK968.out 4).trans rfl, (blk_cell BK968.out 5).trans rfl, (blk_cell BK968.out 6).trans rfl, (blk_cell BK968.out 7).trans rfl, (blk_cell BK968.out 8).trans rfl, (blk_cell BK968.out 9).trans rfl, (blk_cell BK968.out 10).trans rfl, (blk_cell BK968.out 11).trans rfl, (blk_cell BK968.out 12).trans rfl⟩ (fun hHeld => ?_)
            clear hK K
            refine norm_ (a' := ?_) ?_ ?_
            rotate_left
            · show Act.put _ (some 24) _ = _
              simp only [Act.put, List.setIfInBounds_toArray, List.set_cons_zero, List.set_cons_succ, i64_w, i32_w]
              rfl
            refine pure_ (i := 5) (N := some 6) (v := ?_) (a' := ?_) #[true, true, true, true, true, true] rfl rfl (by kernel_rfl) (fun _ _ _ h => h) (Or.inl ⟨by rfl, ?_⟩) ?_ ?_
            rotate_left
            · intro w'
              go_simp
              with_reducible rfl
            rotate_left
            · simp only [Act.put, List.setIfInBounds_toArray, List.set_cons_zero, List.set_cons_succ, i64_w, i32_w]
              rfl
            refine done_ (by kernel_rfl) ?_
            have hcz87_0 : w86.cell? ⟨gb967, 0, none⟩ = some (.int .i64 a0_0) := (blk_cell BK967.out 0).trans rfl
            have hcz87_1 : w86.cell? ⟨gb967, 1, none⟩ = some (.int .i64 a0_1) := (blk_cell BK967.out 1).trans rfl
            have hcz87_2 : w86.cell? ⟨gb967, 2, none⟩ = some (.int .i64 a0_2) := (blk_cell BK967.out 2).trans rfl
            have hcz87_3 : w86.cell? ⟨gb967, 3, none⟩ = some (.int .i64 a0_3) := (blk_cell BK967.out 3).trans rfl
            have hcz87_4 : w86.cell? ⟨gb967, 4, none⟩ = some (.int .i64 a0_4) := (blk_cell BK967.out 4).trans rfl
            have hcz87_5 : w86.cell? ⟨gb967, 5, none⟩ = some (.string a0_5) := (blk_cell BK967.out 5).trans rfl
            have hcz87_6 : w86.cell? ⟨gb967, 6, none⟩ = some (.string a0_6) := (blk_cell BK967.out 6).trans rfl
            have hcz87_7 : w86.cell? ⟨gb967, 7, none⟩ = some (.slice A0_7 l0_7.length c0_7) := (blk_cell BK967.out 7).trans rfl
            have hcz87_8 : w86.cell? ⟨gb967, 8, none⟩ = some (.int .i64 a0_8) := (blk_cell BK967.out 8).trans rfl
            have hcz87_9 : w86.cell? ⟨gb967, 9, none⟩ = some (.int .i64 a0_9) := (blk_cell BK967.out 9).trans rfl
            have hcz87_10 : w86.cell? ⟨gb967, 10, none⟩ = some (.int .i64 a0_10) := (blk_cell BK967.out 10).trans rfl
            have hcz87_11 : w86.cell? ⟨gb967, 11, none⟩ = some (.slice A0_11 l0_11.length c0_11) := (blk_cell BK967.out 11).trans rfl
            have hcz87_12 : w86.cell? ⟨gb967, 12, none⟩ = some (.slice A0_12 l0_12.length c0_12) := (blk_cell BK967.out 12).trans rfl
            have hfz87_0 := blk_frozen BK967.out 0
            have hfz87_1 := blk_frozen BK967.out 1
            have hfz87_2 := blk_frozen BK967.out 2
            have hfz87_3 := blk_frozen BK967.out 3
            have hfz87_4 := blk_frozen BK967.out 4
            have hfz87_5 := blk_frozen BK967.out 5
            have hfz87_6 := blk_frozen BK967.out 6
            have hfz87_7 := blk_frozen BK967.out 7
            have hfz87_8 := blk_frozen BK967.out 8
            have hfz87_9 := blk_frozen BK967.out 9
            have hfz87_10 := blk_frozen BK967.out 10
            have hfz87_11 := blk_frozen BK967.out 11
            have hfz87_12 := blk_frozen BK967.out 12
            try go_wp2_with (first | ((with_reducible refine gate_callee (f := 52) rfl ?_); refine goesL_ (some 26) rfl rfl Try.func52 (by kernel_rfl) rfl #[.agg #[.int .i64 a0_0, .int .i64 a0_1, .int .i64 a0_2, .int .i64 a0_3, .int .i64 a0_4, .string a0_5, .string a0_6, .slice A0_7 l0_7.length c0_7, .int .i64 a0_8, .int .i64 a0_9, .int .i64 a0_10, .slice A0_11 l0_11.length c0_11, .slice A0_12 l0_12.length c0_12]] rfl gA ?_; (with_reducible refine (laws_toMoment.calls k a0_0 a0_1 a0_2 a0_3 a0_4 a0_5 a0_6 _ _ l0_7 a0_8 a0_9 a0_10 _ _ l0_11 _ _ l0_12 t1010 t1011 t1012 t1013 t1014 t1015 t1016 t1017 t1020 t1021 t1022 t1023 t1026 _ ?side1 ?side2 ?side3 ?side4 ?side5 ?side6 A22.out).mono ?_); (case side1 => exact cB HR0_7); (case side2 => exact HC0_7.out); (case side3 => exact cB HR0_11); (case side4 => exact HC0_11.out); (case side5 => exact cB HR0_12); (case side6 => exact HC0_12.out); rintro e w88 ⟨v1018, v1024, v1027, rfl, ho0, ho1, ho2, hb⟩; refine ⟨_, rfl, ?_⟩; have n0_ := Aside0.mk (Kd.R_elder' (pR HO980) (Kd.R_base ho0) hb); have n1_ := Aside0.mk (Kd.R_elder' (pR HO986) (Kd.R_base ho1) hb); have n2_ := Aside0.mk (Kd.R_elder' (pR HO989) (Kd.R_base ho2) hb); have n3_ := Aside0.mk (Kd.R_elder' (pR HO999) (Kd.R_base ho0) hb); have n4_ := Aside0.mk (Kd.R_elder' (pR HO1005) (Kd.R_base ho1) hb); have n5_ := Aside0.mk (Kd.R_elder' (pR HO1008) (Kd.R_base ho2) hb); have n6_ := Aside0.mk (Kd.R_lower (Kd.R_new' (Kd.R_new' ho0 (Kd.R_lt (pR HO980))) (Kd.R_lt (pR HO999))) (below_size (w := w) bW)); have n7_ := Aside0.mk (Kd.R_lower (Kd.R_new' (Kd.R_new' ho1 (Kd.R_lt (pR HO986))) (Kd.R_lt (pR HO1005))) (below_size (w := w) bW)); have n8_ := Aside0.mk (Kd.R_lower (Kd.R_new' (Kd.R_new' ho2 (Kd.R_lt (pR HO989))) (Kd.R_lt (pR HO1008))) (below_size (w := w) bW)); have n9_ := Aside0.mk (kb BK967 hb); have n10_ := Aside0.mk (kb BK968 hb); have n11_ := Aside0.mk (below_step (w := w) bW hb); clear HO980; clear HO986; clear HO989; clear HO999; clear HO1005; clear HO1008; clear BK967; clear BK968; clear HB; have HO980 := n0_; have HO986 := n1_; have HO989 := n2_; have HO999 := n3_; have HO1005 := n4_; have HO1008 := n5_; have HO1019 := n6_; have HO1025 := n7_; have HO1028 := n8_; have BK967 := n9_; have BK968 := n10_; have HB := n11_; clear n0_ n1_ n2_ n3_ n4_ n5_ n6_ n7_ n8_ n9_ n10_ n11_; (try clear hb); (try clear hb2); (try clear hk); (try clear hi); (try clear ho0); (try clear ho1); (try clear ho2)) | ((with_reducible refine gate_dst (N := 7) rfl ?_); refine bE (N := 7) (cs := #[.int .i64 0, .int .i64 0, .int .i64 0, .int .i64 0, .int .i64 0, .string (⟨#[]⟩ : ByteArray), .string (⟨#[]⟩ : ByteArray), .slice none 0 0, .int .i64 0, .int .i64 0, .int .i64 0, .slice none 0 0, .slice none 0 0]) (t := 91) ?_; intro gb1029 hg w89 hbox hb; have n0_ := Aside0.mk (Kd.R_below (pR HO980) hb); have n1_ := Aside0.mk (Kd.R_below (pR HO986) hb); have n2_ := Aside0.mk (Kd.R_below (pR HO989) hb); have n3_ := Aside0.mk (Kd.R_below (pR HO999) hb); have n4_ := Aside0.mk (Kd.R_below (pR HO1005) hb); have n5_ := Aside0.mk (Kd.R_below (pR HO1008) hb); have n6_ := Aside0.mk (Kd.R_below (pR HO1019) hb); have n7_ := Aside0.mk (Kd.R_below (pR HO1025) hb); have n8_ := Aside0.mk (Kd.R_below (pR HO1028) hb); have n9_ := Aside0.mk (kb BK967 hb); have n10_ := Aside0.mk (kb BK968 hb); have n11_ := Aside0.mk (below_step (w := w) bW hb); have n12_ := Aside0.mk (hbox); have n13_ := Aside0.mk (gS (w := w) hg); have n14_ := n13_; have n15_ := Aside0.mk (nL BK967 hg); have n16_ := Aside0.mk (nG BK967 hg); have n17_ := Aside0.mk (nL BK968 hg); have n18_ := Aside0.mk (nG BK968 hg); clear HO980; clear HO986; clear HO989; clear HO999; clear HO1005; clear HO1008; clear HO1019; clear HO1025; clear HO1028; clear BK967; clear BK968; clear HB; have HO980 := n0_; have HO986 := n1_; have HO989 := n2_; have HO999 := n3_; have HO1005 := n4_; have HO1008 := n5_; have HO1019 := n6_; have HO1025 := n7_; have HO1028 := n8_; have BK967 := n9_; have BK968 := n10_; have HB := n11_; have BK1029 := n12_; have GW1029 := n13_; have GE1029 := n14_; have NB967_1029 := n15_; have NB1029_967 := n16_; have NB968_1029 := n17_; have NB1029_968 := n18_; clear n0_ n1_ n2_ n3_ n4_ n5_ n6_ n7_ n8_ n9_ n10_ n11_ n12_ n13_ n14_ n15_ n16_ n17_ n18_; clear hb hbox hg; have hnb90 := NB1029_967.out; have hnc90 := NB967_1029.out; have hnb91 := NB1029_968.out; have hnc91 := NB968_1029.out; obtain ⟨hcz92_0, hcz92_1, hcz92_2, hcz92_3, hcz92_4, hcz92_5, hcz92_6, hcz92_7, hcz92_8, hcz92_9, hcz92_10, hcz92_11, hcz92_12⟩ := cz13 BK1029; obtain ⟨hfz92_0, hfz92_1, hfz92_2, hfz92_3, hfz92_4, hfz92_5, hfz92_6, hfz92_7, hfz92_8, hfz92_9, hfz92_10, hfz92_11, hfz92_12⟩ := fz13 BK1029; obtain ⟨Ao93, co93, eo93⟩ := Kd.R_slice HO1019.out; subst eo93; obtain ⟨Ao94, co94, eo94⟩ := Kd.R_slice HO1025.out; subst eo94; obtain ⟨Ao95, co95, eo95⟩ := Kd.R_slice HO1028.out; subst eo95; obtain ⟨hcz96_0, hcz96_1, hcz96_2, hcz96_3, hcz96_4, hcz96_5, hcz96_6, hcz96_7, hcz96_8, hcz96_9, hcz96_10, hcz96_11, hcz96_12⟩ := cz13 BK968; obtain ⟨hfz96_0, hfz96_1, hfz96_2, hfz96_3, hfz96_4, hfz96_5, hfz96_6, hfz96_7, hfz96_8, hfz96_9, hfz96_10, hfz96_11, hfz96_12⟩ := fz13 BK968) | ((with_reducible refine gate_callee (f := 52) rfl ?_); refine goesL_ (some 28) rfl rfl Try.func52 (by kernel_rfl) rfl #[.agg #[.int .i64 a1_0, .int .i64 a1_1, .int .i64 a1_2, .int .i64 a1_3, .int .i64 a1_4, .string a1_5, .string a1_6, .slice A1_7 l1_7.length c1_7, .int .i64 a1_8, .int .i64 a1_9, .int .i64 a1_10, .slice A1_11 l1_11.length c1_11, .slice A1_12 l1_12.length c1_12]] rfl gA ?_; (with_reducible refine (laws_toMoment.calls k a1_0 a1_1 a1_2 a1_3 a1_4 a1_5 a1_6 _ _ l1_7 a1_8 a1_9 a1_10 _ _ l1_11 _ _ l1_12 t1030 t1031 t1032 t1033 t1034 t1035 t1036 t1037 t1040 t1041 t1042 t1043 t1046 _ ?side1 ?side2 ?side3 ?side4 ?side5 ?side6 A23.out).mono ?_); (case side1 => exact Kd.C_below HR1_7.out bW); (case side2 => exact HC1_7.out); (case side3 => exact Kd.C_below HR1_11.out bW); (case side4 => exact HC1_11.out); (case side5 => exact Kd.C_below HR1_12.out bW); (case side6 => exact HC1_12.out); rintro e w97 ⟨v1038, v1044, v1047, rfl, ho0, ho1, ho2, hb⟩; refine ⟨_, rfl, ?_⟩; have n0_ := Aside0.mk (Kd.R_elder' (by (with_reducible repeat (first | apply Kd.R_alloc | apply Kd.R_drewN | apply Kd.R_drew)); exact (Kd.R_mono (Kd.R_far (p := ⟨gb1029, 12, none⟩) (Kd.R_far (p := ⟨gb1029, 11, none⟩) (Kd.R_far (p := ⟨gb1029, 10, none⟩) (Kd.R_far (p := ⟨gb1029, 9, none⟩) (Kd.R_far (p := ⟨gb1029, 8, none⟩) (Kd.R_far (p := ⟨gb1029, 7, none⟩) (Kd.R_far (p := ⟨gb1029, 6, none⟩) (Kd.R_far (p := ⟨gb1029, 5, none⟩) (Kd.R_far (p := ⟨gb1029, 4, none⟩) (Kd.R_far (p := ⟨gb1029, 3, none⟩) (Kd.R_far (p := ⟨gb1029, 2, none⟩) (Kd.R_far (p := ⟨gb1029, 1, none⟩) (Kd.R_far (p := ⟨gb1029, 0, none⟩) (Kd.R_types HO980.out BK1029.out (by decide)) (fun _ hk => hk.2) (.int .i64 t1010)) (fun _ hk => hk.2) (.int .i64 t1011)) (fun _ hk => hk.2) (.int .i64 t1012)) (fun _ hk => hk.2) (.int .i64 t1013)) (fun _ hk => hk.2) (.int .i64 t1014)) (fun _ hk => hk.2) (.string t1015)) (fun _ hk => hk.2) (.string t1016)) (fun _ hk => hk.2) (.slice Ao93 t1017.length co93)) (fun _ hk => hk.2) (.int .i64 t1020)) (fun _ hk => hk.2) (.int .i64 t1021)) (fun _ hk => hk.2) (.int .i64 t1022)) (fun _ hk => hk.2) (.slice Ao94 t1023.length co94)) (fun _ hk => hk.2) (.slice Ao95 t1026.length co95)) (fun _ h_ => h_.1))) (Kd.R_base ho0) hb); have n1_ := Aside0.mk (Kd.R_elder' (by (with_reducible repeat (first | apply Kd.R_alloc | apply Kd.R_drewN | apply Kd.R_drew)); exact (Kd.R_mono (Kd.R_far (p := ⟨gb1029, 12, none⟩) (Kd.R_far (p := ⟨gb1029, 11, none⟩) (Kd.R_far (p := ⟨gb1029, 10, none⟩) (Kd.R_far (p := ⟨gb1029, 9, none⟩) (Kd.R_far (p := ⟨gb1029, 8, none⟩) (Kd.R_far (p := ⟨gb1029, 7, none⟩) (Kd.R_far (p := ⟨gb1029, 6, none⟩) (Kd.R_far (p := ⟨gb1029, 5, none⟩) (Kd.R_far (p := ⟨gb1029, 4, none⟩) (Kd.R_far (p := ⟨gb1029, 3, none⟩) (Kd.R_far (p := ⟨gb1029, 2, none⟩) (Kd.R_far (p := ⟨gb1029, 1, none⟩) (Kd.R_far (p := ⟨gb1029, 0, none⟩) (Kd.R_types HO986.out BK1029.out (by decide)) (fun _ hk => hk.2) (.int .i64 t1010)) (fun _ hk => hk.2) (.int .i64 t1011)) (fun _ hk => hk.2) (.int .i64 t1012)) (fun _ hk => hk.2) (.int .i64 t1013)) (fun _ hk => hk.2) (.int .i64 t1014)) (fun _ hk => hk.2) (.string t1015)) (fun _ hk => hk.2) (.string t1016)) (fun _ hk => hk.2) (.slice Ao93 t1017.length co93)) (fun _ hk => hk.2) (.int .i64 t1020)) (fun _ hk => hk.2) (.int .i64 t1021)) (fun _ hk => hk.2) (.int .i64 t1022)) (fun _ hk => hk.2) (.slice Ao94 t1023.length co94)) (fun _ hk => hk.2) (.slice Ao95 t1026.length co95)) (fun _ h_ => h_.1))) (Kd.R_base ho1) hb); have n2_ := Aside0.mk (Kd.R_elder' (by (with_reducible repeat (first | apply Kd.R_alloc | apply Kd.R_drewN | apply Kd.R_drew)); exact (Kd.R_mono (Kd.R_far (p := ⟨gb1029, 12, none⟩) (Kd.R_far (p := ⟨gb1029, 11, none⟩) (Kd.R_far (p := ⟨gb1029, 10, none⟩) (Kd.R_far (p := ⟨gb1029, 9, none⟩) (Kd.R_far (p := ⟨gb1029, 8, none⟩) (Kd.R_far (p := ⟨gb1029, 7, none⟩) (Kd.R_far (p := ⟨gb1029, 6, none⟩) (Kd.R_far (p := ⟨gb1029, 5, none⟩) (Kd.R_far (p := ⟨gb1029, 4, none⟩) (Kd.R_far (p := ⟨gb1029, 3, none⟩) (Kd.R_far (p := ⟨gb1029, 2, none⟩) (Kd.R_far (p := ⟨gb1029, 1, none⟩) (Kd.R_far (p := ⟨gb1029, 0, none⟩) (Kd.R_types HO989.out BK1029.out (by decide)) (fun _ hk => hk.2) (.int .i64 t1010)) (fun _ hk => hk.2) (.int .i64 t1011)) (fun _ hk => hk.2) (.int .i64 t1012)) (fun _ hk => hk.2) (.int .i64 t1013)) (fun _ hk => hk.2) (.int .i64 t1014)) (fun _ hk => hk.2) (.string t1015)) (fun _ hk => hk.2) (.string t1016)) (fun _ hk => hk.2) (.slice Ao93 t1017.length co93)) (fun _ hk => hk.2) (.int .i64 t1020)) (fun _ hk => hk.2) (.int .i64 t1021)) (fun _ hk => hk.2) (.int .i64 t1022)) (fun _ hk => hk.2) (.slice Ao94 t1023.length co94)) (fun _ hk => hk.2) (.slice Ao95 t1026.length co95)) (fun _ h_ => h_.1))) (Kd.R_base ho2) hb); have n3_ := Aside0.mk (Kd.R_elder' (by (with_reducible repeat (first | apply Kd.R_alloc | apply Kd.R_drewN | apply Kd.R_drew)); exact (Kd.R_mono (Kd.R_far (p := ⟨gb1029, 12, none⟩) (Kd.R_far (p := ⟨gb1029, 11, none⟩) (Kd.R_far (p := ⟨gb1029, 10, none⟩) (Kd.R_far (p := ⟨gb1029, 9, none⟩) (Kd.R_far (p := ⟨gb1029, 8, none⟩) (Kd.R_far (p := ⟨gb1029, 7, none⟩) (Kd.R_far (p := ⟨gb1029, 6, none⟩) (Kd.R_far (p := ⟨gb1029, 5, none⟩) (Kd.R_far (p := ⟨gb1029, 4, none⟩) (Kd.R_far (p := ⟨gb1029, 3, none⟩) (Kd.R_far (p := ⟨gb1029, 2, none⟩) (Kd.R_far (p := ⟨gb1029, 1, none⟩) (Kd.R_far (p := ⟨gb1029, 0, none⟩) (Kd.R_types HO999.out BK1029.out (by decide)) (fun _ hk => hk.2) (.int .i64 t1010)) (fun _ hk => hk.2) (.int .i64 t1011)) (fun _ hk => hk.2) (.int .i64 t1012)) (fun _ hk => hk.2) (.int .i64 t1013)) (fun _ hk => hk.2) (.int .i64 t1014)) (fun _ hk => hk.2) (.string t1015)) (fun _ hk => hk.2) (.string t1016)) (fun _ hk => hk.2) (.slice Ao93 t1017.length co93)) (fun _ hk => hk.2) (.int .i64 t1020)) (fun _ hk => hk.2) (.int .i64 t1021)) (fun _ hk => hk.2) (.int .i64 t1022)) (fun _ hk => hk.2) (.slice Ao94 t1023.length co94)) (fun _ hk => hk.2) (.slice Ao95 t1026.length co95)) (fun _ h_ => h_.1))) (Kd.R_base ho0) hb); have n4_ := Aside0.mk (Kd.R_elder' (by (with_reducible repeat (first | apply Kd.R_alloc | apply Kd.R_drewN | apply Kd.R_drew)); exact (Kd.R_mono (Kd.R_far (p := ⟨gb1029, 12, none⟩) (Kd.R_far (p := ⟨gb1029, 11, none⟩) (Kd.R_far (p := ⟨gb1029, 10, none⟩) (Kd.R_far (p := ⟨gb1029, 9, none⟩) (Kd.R_far (p := ⟨gb1029, 8, none⟩) (Kd.R_far (p := ⟨gb1029, 7, none⟩) (Kd.R_far (p := ⟨gb1029, 6, none⟩) (Kd.R_far (p := ⟨gb1029, 5, none⟩) (Kd.R_far (p := ⟨gb1029, 4, none⟩) (Kd.R_far (p := ⟨gb1029, 3, none⟩) (Kd.R_far (p := ⟨gb1029, 2, none⟩) (Kd.R_far (p := ⟨gb1029, 1, none⟩) (Kd.R_far (p := ⟨gb1029, 0, none⟩) (Kd.R_types HO1005.out BK1029.out (by decide)) (fun _ hk => hk.2) (.int .i64 t1010)) (fun _ hk => hk.2) (.int .i64 t1011)) (fun _ hk => hk.2) (.int .i64 t1012)) (fun _ hk => hk.2) (.int .i64 t1013)) (fun _ hk => hk.2) (.int .i64 t1014)) (fun _ hk => hk.2) (.string t1015)) (fun _ hk => hk.2) (.string t1016)) (fun _ hk => hk.2) (.slice Ao93 t1017.length co93)) (fun _ hk => hk.2) (.int .i64 t1020)) (fun _ hk => hk.2) (.int .i64 t1021)) (fun _ hk => hk.2) (.int .i64 t1022)) (fun _ hk => hk.2) (.slice Ao94 t1023.length co94)) (fun _ hk => hk.2) (.slice Ao95 t1026.length co95)) (fun _ h_ => h_.1))) (Kd.R_base ho1) hb); have n5_ := Aside0.mk (Kd.R_elder' (by (with_reducible repeat (first | apply Kd.R_alloc | apply Kd.R_drewN | apply Kd.R_drew)); exact (Kd.R_mono (Kd.R_far (p := ⟨gb1029, 12, none⟩) (Kd.R_far (p := ⟨gb1029, 11, none⟩) (Kd.R_far (p := ⟨gb1029, 10, none⟩) (Kd.R_far (p := ⟨gb1029, 9, none⟩) (Kd.R_far (p := ⟨gb1029, 8, none⟩) (Kd.R_far (p := ⟨gb1029, 7, none⟩) (Kd.R_far (p := ⟨gb1029, 6, none⟩) (Kd.R_far (p := ⟨gb1029, 5, none⟩) (Kd.R_far (p := ⟨gb1029, 4, none⟩) (Kd.R_far (p := ⟨gb1029, 3, none⟩) (Kd.R_far (p := ⟨gb1029, 2, none⟩) (Kd.R_far (p := ⟨gb1029, 1, none⟩) (Kd.R_far (p := ⟨gb1029, 0, none⟩) (Kd.R_types HO1008.out BK1029.out (by decide)) (fun _ hk => hk.2) (.int .i64 t1010)) (fun _ hk => hk.2) (.int .i64 t1011)) (fun _ hk => hk.2) (.int .i64 t1012)) (fun _ hk => hk.2) (.int .i64 t1013)) (fun _ hk => hk.2) (.int .i64 t1014)) (fun _ hk => hk.2) (.string t1015)) (fun _ hk => hk.2) (.string t1016)) (fun _ hk => hk.2) (.slice Ao93 t1017.length co93)) (fun _ hk => hk.2) (.int .i64 t1020)) (fun _ hk => hk.2) (.int .i64 t1021)) (fun _ hk => hk.2) (.int .i64 t1022)) (fun _ hk => hk.2) (.slice Ao94 t1023.length co94)) (fun _ hk => hk.2) (.slice Ao95 t1026.length co95)) (fun _ h_ => h_.1))) (Kd.R_base ho2) hb); have n6_ := Aside0.mk (Kd.R_elder' (by (with_reducible repeat (first | apply Kd.R_alloc | apply Kd.R_drewN | apply Kd.R_drew)); exact (Kd.R_mono (Kd.R_far (p := ⟨gb1029, 12, none⟩) (Kd.R_far (p := ⟨gb1029, 11, none⟩) (Kd.R_far (p := ⟨gb1029, 10, none⟩) (Kd.R_far (p := ⟨gb1029, 9, none⟩) (Kd.R_far (p := ⟨gb1029, 8, none⟩) (Kd.R_far (p := ⟨gb1029, 7, none⟩) (Kd.R_far (p := ⟨gb1029, 6, none⟩) (Kd.R_far (p := ⟨gb1029, 5, none⟩) (Kd.R_far (p := ⟨gb1029, 4, none⟩) (Kd.R_far (p := ⟨gb1029, 3, none⟩) (Kd.R_far (p := ⟨gb1029, 2, none⟩) (Kd.R_far (p := ⟨gb1029, 1, none⟩) (Kd.R_far (p := ⟨gb1029, 0, none⟩) (Kd.R_types HO1019.out BK1029.out (by decide)) (fun _ hk => hk.2) (.int .i64 t1010)) (fun _ hk => hk.2) (.int .i64 t1011)) (fun _ hk => hk.2) (.int .i64 t1012)) (fun _ hk => hk.2) (.int .i64 t1013)) (fun _ hk => hk.2) (.int .i64 t1014)) (fun _ hk => hk.2) (.string t1015)) (fun _ hk => hk.2) (.string t1016)) (fun _ hk => hk.2) (.slice Ao93 t1017.length co93)) (fun _ hk => hk.2) (.int .i64 t1020)) (fun _ hk => hk.2) (.int .i64 t1021)) (fun _ hk => hk.2) (.int .i64 t1022)) (fun _ hk => hk.2) (.slice Ao94 t1023.length co94)) (fun _ hk => hk.2) (.slice Ao95 t1026.length co95)) (fun _ h_ => h_.1))) (Kd.R_base ho0) hb); have n7_ := Aside0.mk (Kd.R_elder' (by (with_reducible repeat (first | apply Kd.R_alloc | apply Kd.R_drewN | apply Kd.R_drew)); exact (Kd.R_mono (Kd.R_far (p := ⟨gb1029, 12, none⟩) (Kd.R_far (p := ⟨gb1029, 11, none⟩) (Kd.R_far (p := ⟨gb1029, 10, none⟩) (Kd.R_far (p := ⟨gb1029, 9, none⟩) (Kd.R_far (p := ⟨gb1029, 8, none⟩) (Kd.R_far (p := ⟨gb1029, 7, none⟩) (Kd.R_far (p := ⟨gb1029, 6, none⟩) (Kd.R_far (p := ⟨gb1029, 5, none⟩) (Kd.R_far (p := ⟨gb1029, 4, none⟩) (Kd.R_far (p := ⟨gb1029, 3, none⟩) (Kd.R_far (p := ⟨gb1029, 2, none⟩) (Kd.R_far (p := ⟨gb1029, 1, none⟩) (Kd.R_far (p := ⟨gb1029, 0, none⟩) (Kd.R_types HO1025.out BK1029.out (by decide)) (fun _ hk => hk.2) (.int .i64 t1010)) (fun _ hk => hk.2) (.int .i64 t1011)) (fun _ hk => hk.2) (.int .i64 t1012)) (fun _ hk => hk.2) (.int .i64 t1013)) (fun _ hk => hk.2) (.int .i64 t1014)) (fun _ hk => hk.2) (.string t1015)) (fun _ hk => hk.2) (.string t1016)) (fun _ hk => hk.2) (.slice Ao93 t1017.length co93)) (fun _ hk => hk.2) (.int .i64 t1020)) (fun _ hk => hk.2) (.int .i64 t1021)) (fun _ hk => hk.2) (.int .i64 t1022)) (fun _ hk => hk.2) (.slice Ao94 t1023.length co94)) (fun _ hk => hk.2) (.slice Ao95 t1026.length co95)) (fun _ h_ => h_.1))) (Kd.R_base ho1) hb); have n8_ := Aside0.mk (Kd.R_elder' (by (with_reducible repeat (first | apply Kd.R_alloc | apply Kd.R_drewN | apply Kd.R_drew)); exact (Kd.R_mono (Kd.R_far (p := ⟨gb1029, 12, none⟩) (Kd.R_far (p := ⟨gb1029, 11, none⟩) (Kd.R_far (p := ⟨gb1029, 10, none⟩) (Kd.R_far (p := ⟨gb1029, 9, none⟩) (Kd.R_far (p := ⟨gb1029, 8, none⟩) (Kd.R_far (p := ⟨gb1029, 7, none⟩) (Kd.R_far (p := ⟨gb1029, 6, none⟩) (Kd.R_far (p := ⟨gb1029, 5, none⟩) (Kd.R_far (p := ⟨gb1029, 4, none⟩) (Kd.R_far (p := ⟨gb1029, 3, none⟩) (Kd.R_far (p := ⟨gb1029, 2, none⟩) (Kd.R_far (p := ⟨gb1029, 1, none⟩) (Kd.R_far (p := ⟨gb1029, 0, none⟩) (Kd.R_types HO1028.out BK1029.out (by decide)) (fun _ hk => hk.2) (.int .i64 t1010)) (fun _ hk => hk.2) (.int .i64 t1011)) (fun _ hk => hk.2) (.int .i64 t1012)) (fun _ hk => hk.2) (.int .i64 t1013)) (fun _ hk => hk.2) (.int .i64 t1014)) (fun _ hk => hk.2) (.string t1015)) (fun _ hk => hk.2) (.string t1016)) (fun _ hk => hk.2) (.slice Ao93 t1017.length co93)) (fun _ hk => hk.2) (.int .i64 t1020)) (fun _ hk => hk.2) (.int .i64 t1021)) (fun _ hk => hk.2) (.int .i64 t1022)) (fun _ hk => hk.2) (.slice Ao94 t1023.length co94)) (fun _ hk => hk.2) (.slice Ao95 t1026.length co95)) (fun _ h_ => h_.1))) (Kd.R_base ho2) hb); have n9_ := Aside0.mk (Kd.R_lower (Kd.R_new' (Kd.R_new' (Kd.R_new' ho0 (Kd.R_lt (by (with_reducible repeat (first | apply Kd.R_alloc | apply Kd.R_drewN | apply Kd.R_drew)); exact (Kd.R_mono (Kd.R_far (p := ⟨gb1029, 12, none⟩) (Kd.R_far (p := ⟨gb1029, 11, none⟩) (Kd.R_far (p := ⟨gb1029, 10, none⟩) (Kd.R_far (p := ⟨gb1029, 9, none⟩) (Kd.R_far (p := ⟨gb1029, 8, none⟩) (Kd.R_far (p := ⟨gb1029, 7, none⟩) (Kd.R_far (p := ⟨gb1029, 6, none⟩) (Kd.R_far (p := ⟨gb1029, 5, none⟩) (Kd.R_far (p := ⟨gb1029, 4, none⟩) (Kd.R_far (p := ⟨gb1029, 3, none⟩) (Kd.R_far (p := ⟨gb1029, 2, none⟩) (Kd.R_far (p := ⟨gb1029, 1, none⟩) (Kd.R_far (p := ⟨gb1029, 0, none⟩) (Kd.R_types HO980.out BK1029.out (by decide)) (fun _ hk => hk.2) (.int .i64 t1010)) (fun _ hk => hk.2) (.int .i64 t1011)) (fun _ hk => hk.2) (.int .i64 t1012)) (fun _ hk => hk.2) (.int .i64 t1013)) (fun _ hk => hk.2) (.int .i64 t1014)) (fun _ hk => hk.2) (.string t1015)) (fun _ hk => hk.2) (.string t1016)) (fun _ hk => hk.2) (.slice Ao93 t1017.length co93)) (fun _ hk => hk.2) (.int .i64 t1020)) (fun _ hk => hk.2) (.int .i64 t1021)) (fun _ hk => hk.2) (.int .i64 t1022)) (fun _ hk => hk.2) (.slice Ao94 t1023.length co94)) (fun _ hk => hk.2) (.slice Ao95 t1026.length co95)) (fun _ h_ => h_.1))))) (Kd.R_lt (by (with_reducible repeat (first | apply Kd.R_alloc | apply Kd.R_drewN | apply Kd.R_drew)); exact (Kd.R_mono (Kd.R_far (p := ⟨gb1029, 12, none⟩) (Kd.R_far (p := ⟨gb1029, 11, none⟩) (Kd.R_far (p := ⟨gb1029, 10, none⟩) (Kd.R_far (p := ⟨gb1029, 9, none⟩) (Kd.R_far (p := ⟨gb1029, 8, none⟩) (Kd.R_far (p := ⟨gb1029, 7, none⟩) (Kd.R_far (p := ⟨gb1029, 6, none⟩) (Kd.R_far (p := ⟨gb1029, 5, none⟩) (Kd.R_far (p := ⟨gb1029, 4, none⟩) (Kd.R_far (p := ⟨gb1029, 3, none⟩) (Kd.R_far (p := ⟨gb1029, 2, none⟩) (Kd.R_far (p := ⟨gb1029, 1, none⟩) (Kd.R_far (p := ⟨gb1029, 0, none⟩) (Kd.R_types HO999.out BK1029.out (by decide)) (fun _ hk => hk.2) (.int .i64 t1010)) (fun _ hk => hk.2) (.int .i64 t1011)) (fun _ hk => hk.2) (.int .i64 t1012)) (fun _ hk => hk.2) (.int .i64 t1013)) (fun _ hk => hk.2) (.int .i64 t1014)) (fun _ hk => hk.2) (.string t1015)) (fun _ hk => hk.2) (.string t1016)) (fun _ hk => hk.2) (.slice Ao93 t1017.length co93)) (fun _ hk => hk.2) (.int .i64 t1020)) (fun _ hk => hk.2) (.int .i64 t1021)) (fun _ hk => hk.2) (.int .i64 t1022)) (fun _ hk => hk.2) (.slice Ao94 t1023.length co94)) (fun _ hk => hk.2) (.slice Ao95 t1026.length co95)) (fun _ h_ => h_.1))))) (Kd.R_lt (by (with_reducible repeat (first | apply Kd.R_alloc | apply Kd.R_drewN | apply Kd.R_drew)); exact (Kd.R_mono (Kd.R_far (p := ⟨gb1029, 12, none⟩) (Kd.R_far (p := ⟨gb1029, 11, none⟩) (Kd.R_far (p := ⟨gb1029, 10, none⟩) (Kd.R_far (p := ⟨gb1029, 9, none⟩) (Kd.R_far (p := ⟨gb1029, 8, none⟩) (Kd.R_far (p := ⟨gb1029, 7, none⟩) (Kd.R_far (p := ⟨gb1029, 6, none⟩) (Kd.R_far (p := ⟨gb1029, 5, none⟩) (Kd.R_far (p := ⟨gb1029, 4, none⟩) (Kd.R_far (p := ⟨gb1029, 3, none⟩) (Kd.R_far (p := ⟨gb1029, 2, none⟩) (Kd.R_far (p := ⟨gb1029, 1, none⟩) (Kd.R_far (p := ⟨gb1029, 0, none⟩) (Kd.R_types HO1019.out BK1029.out (by decide)) (fun _ hk => hk.2) (.int .i64 t1010)) (fun _ hk => hk.2) (.int .i64 t1011)) (fun _ hk => hk.2) (.int .i64 t1012)) (fun _ hk => hk.2) (.int .i64 t1013)) (fun _ hk => hk.2) (.int .i64 t1014)) (fun _ hk => hk.2) (.string t1015)) (fun _ hk => hk.2) (.string t1016)) (fun _ hk => hk.2) (.slice Ao93 t1017.length co93)) (fun _ hk => hk.2) (.int .i64 t1020)) (fun _ hk => hk.2) (.int .i64 t1021)) (fun _ hk => hk.2) (.int .i64 t1022)) (fun _ hk => hk.2) (.slice Ao94 t1023.length co94)) (fun _ hk => hk.2) (.slice Ao95 t1026.length co95)) (fun _ h_ => h_.1))))) (below_size (w := w) bW)); have n10_ := Aside0.mk (Kd.R_lower (Kd.R_new' (Kd.R_new' (Kd.R_new' ho1 (Kd.R_lt (by (with_reducible repeat (first | apply Kd.R_alloc | apply Kd.R_drewN | apply Kd.R_drew)); exact (Kd.R_mono (Kd.R_far (p := ⟨gb1029, 12, none⟩) (Kd.R_far (p := ⟨gb1029, 11, none⟩) (Kd.R_far (p := ⟨gb1029, 10, none⟩) (Kd.R_far (p := ⟨gb1029, 9, none⟩) (Kd.R_far (p := ⟨gb1029, 8, none⟩) (Kd.R_far (p := ⟨gb1029, 7, none⟩) (Kd.R_far (p := ⟨gb1029, 6, none⟩) (Kd.R_far (p := ⟨gb1029, 5, none⟩) (Kd.R_far (p := ⟨gb1029, 4, none⟩) (Kd.R_far (p := ⟨gb1029, 3, none⟩) (Kd.R_far (p := ⟨gb1029, 2, none⟩) (Kd.R_far (p := ⟨gb1029, 1, none⟩) (Kd.R_far (p := ⟨gb1029, 0, none⟩) (Kd.R_types HO986.out BK1029.out (by decide)) (fun _ hk => hk.2) (.int .i64 t1010)) (fun _ hk => hk.2) (.int .i64 t1011)) (fun _ hk => hk.2) (.int .i64 t1012)) (fun _ hk => hk.2) (.int .i64 t1013)) (fun _ hk => hk.2) (.int .i64 t1014)) (fun _ hk => hk.2) (.string t1015)) (fun _ hk => hk.2) (.string t1016)) (fun _ hk => hk.2) (.slice Ao93 t1017.length co93)) (fun _ hk => hk.2) (.int .i64 t1020)) (fun _ hk => hk.2) (.int .i64 t1021)) (fun _ hk => hk.2) (.int .i64 t1022)) (fun _ hk => hk.2) (.slice Ao94 t1023.length co94)) (fun _ hk => hk.2) (.slice Ao95 t1026.length co95)) (fun _ h_ => h_.1))))) (Kd.R_lt (by (with_reducible repeat (first | apply Kd.R_alloc | apply Kd.R_drewN | apply Kd.R_drew)); exact (Kd.R_mono (Kd.R_far (p := ⟨gb1029, 12, none⟩) (Kd.R_far (p := ⟨gb1029, 11, none⟩) (Kd.R_far (p := ⟨gb1029, 10, none⟩) (Kd.R_far (p := ⟨gb1029, 9, none⟩) (Kd.R_far (p := ⟨gb1029, 8, none⟩) (Kd.R_far (p := ⟨gb1029, 7, none⟩) (Kd.R_far (p := ⟨gb1029, 6, none⟩) (Kd.R_far (p := ⟨gb1029, 5, none⟩) (Kd.R_far (p := ⟨gb1029, 4, none⟩) (Kd.R_far (p := ⟨gb1029, 3, none⟩) (Kd.R_far (p := ⟨gb1029, 2, none⟩) (Kd.R_far (p := ⟨gb1029, 1, none⟩) (Kd.R_far (p := ⟨gb1029, 0, none⟩) (Kd.R_types HO1005.out BK1029.out (by decide)) (fun _ hk => hk.2) (.int .i64 t1010)) (fun _ hk => hk.2) (.int .i64 t1011)) (fun _ hk => hk.2) (.int .i64 t1012)) (fun _ hk => hk.2) (.int .i64 t1013)) (fun _ hk => hk.2) (.int .i64 t1014)) (fun _ hk => hk.2) (.string t1015)) (fun _ hk => hk.2) (.string t1016)) (fun _ hk => hk.2) (.slice Ao93 t1017.length co93)) (fun _ hk => hk.2) (.int .i64 t1020)) (fun _ hk => hk.2) (.int .i64 t1021)) (fun _ hk => hk.2) (.int .i64 t1022)) (fun _ hk => hk.2) (.slice Ao94 t1023.length co94)) (fun _ hk => hk.2) (.slice Ao95 t1026.length co95)) (fun _ h_ => h_.1))))) (Kd.R_lt (by (with_reducible repeat (first | apply Kd.R_alloc | apply Kd.R_drewN | apply Kd.R_drew)); exact (Kd.R_mono (Kd.R_far (p := ⟨gb1029, 12, none⟩) (Kd.R_far (p := ⟨gb1029, 11, none⟩) (Kd.R_far (p := ⟨gb1029, 10, none⟩) (Kd.R_far (p := ⟨gb1029, 9, none⟩) (Kd.R_far (p := ⟨gb1029, 8, none⟩) (Kd.R_far (p := ⟨gb1029, 7, none⟩) (Kd.R_far (p := ⟨gb1029, 6, none⟩) (Kd.R_far (p := ⟨gb1029, 5, none⟩) (Kd.R_far (p := ⟨gb1029, 4, none⟩) (Kd.R_far (p := ⟨gb1029, 3, none⟩) (Kd.R_far (p := ⟨gb1029, 2, none⟩) (Kd.R_far (p := ⟨gb1029, 1, none⟩) (Kd.R_far (p := ⟨gb1029, 0, none⟩) (Kd.R_types HO1025.out BK1029.out (by decide)) (fun _ hk => hk.2) (.int .i64 t1010)) (fun _ hk => hk.2) (.int .i64 t1011)) (fun _ hk => hk.2) (.int .i64 t1012)) (fun _ hk => hk.2) (.int .i64 t1013)) (fun _ hk => hk.2) (.int .i64 t1014)) (fun _ hk => hk.2) (.string t1015)) (fun _ hk => hk.2) (.string t1016)) (fun _ hk => hk.2) (.slice Ao93 t1017.length co93)) (fun _ hk => hk.2) (.int .i64 t1020)) (fun _ hk => hk.2) (.int .i64 t1021)) (fun _ hk => hk.2) (.int .i64 t1022)) (fun _ hk => hk.2) (.slice Ao94 t1023.length co94)) (fun _ hk => hk.2) (.slice Ao95 t1026.length co95)) (fun _ h_ => h_.1))))) (below_size (w := w) bW)); have n11_ := Aside0.mk (Kd.R_lower (Kd.R_new' (Kd.R_new' (Kd.R_new' ho2 (Kd.R_lt (by (with_reducible repeat (first | apply Kd.R_alloc | apply Kd.R_drewN | apply Kd.R_drew)); exact (Kd.R_mono (Kd.R_far (p := ⟨gb1029, 12, none⟩) (Kd.R_far (p := ⟨gb1029, 11, none⟩) (Kd.R_far (p := ⟨gb1029, 10, none⟩) (Kd.R_far (p := ⟨gb1029, 9, none⟩) (Kd.R_far (p := ⟨gb1029, 8, none⟩) (Kd.R_far (p := ⟨gb1029, 7, none⟩) (Kd.R_far (p := ⟨gb1029, 6, none⟩) (Kd.R_far (p := ⟨gb1029, 5, none⟩) (Kd.R_far (p := ⟨gb1029, 4, none⟩) (Kd.R_far (p := ⟨gb1029, 3, none⟩) (Kd.R_far (p := ⟨gb1029, 2, none⟩) (Kd.R_far (p := ⟨gb1029, 1, none⟩) (Kd.R_far (p := ⟨gb1029, 0, none⟩) (Kd.R_types HO989.out BK1029.out (by decide)) (fun _ hk => hk.2) (.int .i64 t1010)) (fun _ hk => hk.2) (.int .i64 t1011)) (fun _ hk => hk.2) (.int .i64 t1012)) (fun _ hk => hk.2) (.int .i64 t1013)) (fun _ hk => hk.2) (.int .i64 t1014)) (fun _ hk => hk.2) (.string t1015)) (fun _ hk => hk.2) (.string t1016)) (fun _ hk => hk.2) (.slice Ao93 t1017.length co93)) (fun _ hk => hk.2) (.int .i64 t1020)) (fun _ hk => hk.2) (.int .i64 t1021)) (fun _ hk => hk.2) (.int .i64 t1022)) (fun _ hk => hk.2) (.slice Ao94 t1023.length co94)) (fun _ hk => hk.2) (.slice Ao95 t1026.length co95)) (fun _ h_ => h_.1))))) (Kd.R_lt (by (with_reducible repeat (first | apply Kd.R_alloc | apply Kd.R_drewN | apply Kd.R_drew)); exact (Kd.R_mono (Kd.R_far (p := ⟨gb1029, 12, none⟩) (Kd.R_far (p := ⟨gb1029, 11, none⟩) (Kd.R_far (p := ⟨gb1029, 10, none⟩) (Kd.R_far (p := ⟨gb1029, 9, none⟩) (Kd.R_far (p := ⟨gb1029, 8, none⟩) (Kd.R_far (p := ⟨gb1029, 7, none⟩) (Kd.R_far (p := ⟨gb1029, 6, none⟩) (Kd.R_far (p := ⟨gb1029, 5, none⟩) (Kd.R_far (p := ⟨gb1029, 4, none⟩) (Kd.R_far (p := ⟨gb1029, 3, none⟩) (Kd.R_far (p := ⟨gb1029, 2, none⟩) (Kd.R_far (p := ⟨gb1029, 1, none⟩) (Kd.R_far (p := ⟨gb1029, 0, none⟩) (Kd.R_types HO1008.out BK1029.out (by decide)) (fun _ hk => hk.2) (.int .i64 t1010)) (fun _ hk => hk.2) (.int .i64 t1011)) (fun _ hk => hk.2) (.int .i64 t1012)) (fun _ hk => hk.2) (.int .i64 t1013)) (fun _ hk => hk.2) (.int .i64 t1014)) (fun _ hk => hk.2) (.string t1015)) (fun _ hk => hk.2) (.string t1016)) (fun _ hk => hk.2) (.slice Ao93 t1017.length co93)) (fun _ hk => hk.2) (.int .i64 t1020)) (fun _ hk => hk.2) (.int .i64 t1021)) (fun _ hk => hk.2) (.int .i64 t1022)) (fun _ hk => hk.2) (.slice Ao94 t1023.length co94)) (fun _ hk => hk.2) (.slice Ao95 t1026.length co95)) (fun _ h_ => h_.1))))) (Kd.R_lt (by (with_reducible repeat (first | apply Kd.R_alloc | apply Kd.R_drewN | apply Kd.R_drew)); exact (Kd.R_mono (Kd.R_far (p := ⟨gb1029, 12, none⟩) (Kd.R_far (p := ⟨gb1029, 11, none⟩) (Kd.R_far (p := ⟨gb1029, 10, none⟩) (Kd.R_far (p := ⟨gb1029, 9, none⟩) (Kd.R_far (p := ⟨gb1029, 8, none⟩) (Kd.R_far (p := ⟨gb1029, 7, none⟩) (Kd.R_far (p := ⟨gb1029, 6, none⟩) (Kd.R_far (p := ⟨gb1029, 5, none⟩) (Kd.R_far (p := ⟨gb1029, 4, none⟩) (Kd.R_far (p := ⟨gb1029, 3, none⟩) (Kd.R_far (p := ⟨gb1029, 2, none⟩) (Kd.R_far (p := ⟨gb1029, 1, none⟩) (Kd.R_far (p := ⟨gb1029, 0, none⟩) (Kd.R_types HO1028.out BK1029.out (by decide)) (fun _ hk => hk.2) (.int .i64 t1010)) (fun _ hk => hk.2) (.int .i64 t1011)) (fun _ hk => hk.2) (.int .i64 t1012)) (fun _ hk => hk.2) (.int .i64 t1013)) (fun _ hk => hk.2) (.int .i64 t1014)) (fun _ hk => hk.2) (.string t1015)) (fun _ hk => hk.2) (.string t1016)) (fun _ hk => hk.2) (.slice Ao93 t1017.length co93)) (fun _ hk => hk.2) (.int .i64 t1020)) (fun _ hk => hk.2) (.int .i64 t1021)) (fun _ hk => hk.2) (.int .i64 t1022)) (fun _ hk => hk.2) (.slice Ao94 t1023.length co94)) (fun _ hk => hk.2) (.slice Ao95 t1026.length co95)) (fun _ h_ => h_.1))))) (below_size (w := w) bW)); have n12_ := Aside0.mk (kbF BK967 hb); have n13_ := Aside0.mk (kbF BK968 hb); have n14_ := Aside0.mk (blk_below (g := gb1029) (o := .cells #[.int .i64 t1010, .int .i64 t1011, .int .i64 t1012, .int .i64 t1013, .int .i64 t1014, .string t1015, .string t1016, .slice Ao93 t1017.length co93, .int .i64 t1020, .int .i64 t1021, .int .i64 t1022, .slice Ao94 t1023.length co94, .slice Ao95 t1026.length co95] 91 (0, 0)) (by (with_reducible repeat (first | refine blk_drewN ?_ _ | refine blk_drew ?_ | refine blk_alloc ?_ _)); refine blk_put (cs := #[.int .i64 t1010, .int .i64 t1011, .int .i64 t1012, .int .i64 t1013, .int .i64 t1014, .string t1015, .string t1016, .slice Ao93 t1017.length co93, .int .i64 t1020, .int .i64 t1021, .int .i64 t1022, .slice Ao94 t1023.length co94, .slice none 0 0]) ?_ 12 _ rfl; (with_reducible repeat (first | refine blk_drewN ?_ _ | refine blk_drew ?_ | refine blk_alloc ?_ _)); refine blk_put (cs := #[.int .i64 t1010, .int .i64 t1011, .int .i64 t1012, .int .i64 t1013, .int .i64 t1014, .string t1015, .string t1016, .slice Ao93 t1017.length co93, .int .i64 t1020, .int .i64 t1021, .int .i64 t1022, .slice none 0 0, .slice none 0 0]) ?_ 11 _ rfl; (with_reducible repeat (first | refine blk_drewN ?_ _ | refine blk_drew ?_ | refine blk_alloc ?_ _)); refine blk_put (cs := #[.int .i64 t1010, .int .i64 t1011, .int .i64 t1012, .int .i64 t1013, .int .i64 t1014, .string t1015, .string t1016, .slice Ao93 t1017.length co93, .int .i64 t1020, .int .i64 t1021, .int .i64 0, .slice none 0 0, .slice none 0 0]) ?_ 10 _ rfl; (with_reducible repeat (first | refine blk_drewN ?_ _ | refine blk_drew ?_ | refine blk_alloc ?_ _)); refine blk_put (cs := #[.int .i64 t1010, .int .i64 t1011, .int .i64 t1012, .int .i64 t1013, .int .i64 t1014, .string t1015, .string t1016, .slice Ao93 t1017.length co93, .int .i64 t1020, .int .i64 0, .int .i64 0, .slice none 0 0, .slice none 0 0]) ?_ 9 _ rfl; (with_reducible repeat (first | refine blk_drewN ?_ _ | refine blk_drew ?_ | refine blk_alloc ?_ _)); refine blk_put (cs := #[.int .i64 t1010, .int .i64 t1011, .int .i64 t1012, .int .i64 t1013, .int .i64 t1014, .string t1015, .string t1016, .slice Ao93 t1017.length co93, .int .i64 0, .int .i64 0, .int .i64 0, .slice none 0 0, .slice none 0 0]) ?_ 8 _ rfl; (with_reducible repeat (first | refine blk_drewN ?_ _ | refine blk_drew ?_ | refine blk_alloc ?_ _)); refine blk_put (cs := #[.int .i64 t1010, .int .i64 t1011, .int .i64 t1012, .int .i64 t1013, .int .i64 t1014, .string t1015, .string t1016, .slice none 0 0, .int .i64 0, .int .i64 0, .int .i64 0, .slice none 0 0, .slice none 0 0]) ?_ 7 _ rfl; (with_reducible repeat (first | refine blk_drewN ?_ _ | refine blk_drew ?_ | refine blk_alloc ?_ _)); refine blk_put (cs := #[.int .i64 t1010, .int .i64 t1011, .int .i64 t1012, .int .i64 t1013, .int .i64 t1014, .string t1015, .string (⟨#[]⟩ : ByteArray), .slice none 0 0, .int .i64 0, .int .i64 0, .int .i64 0, .slice none 0 0, .slice none 0 0]) ?_ 6 _ rfl; (with_reducible repeat (first | refine blk_drewN ?_ _ | refine blk_drew ?_ | refine blk_alloc ?_ _)); refine blk_put (cs := #[.int .i64 t1010, .int .i64 t1011, .int .i64 t1012, .int .i64 t1013, .int .i64 t1014, .string (⟨#[]⟩ : ByteArray), .string (⟨#[]⟩ : ByteArray), .slice none 0 0, .int .i64 0, .int .i64 0, .int .i64 0, .slice none 0 0, .slice none 0 0]) ?_ 5 _ rfl; (with_reducible repeat (first | refine blk_drewN ?_ _ | refine blk_drew ?_ | refine blk_alloc ?_ _)); refine blk_put (cs := #[.int .i64 t1010, .int .i64 t1011, .int .i64 t1012, .int .i64 t1013, .int .i64 0, .string (⟨#[]⟩ : ByteArray), .string (⟨#[]⟩ : ByteArray), .slice none 0 0, .int .i64 0, .int .i64 0, .int .i64 0, .slice none 0 0, .slice none 0 0]) ?_ 4 _ rfl; (with_reducible repeat (first | refine blk_drewN ?_ _ | refine blk_drew ?_ | refine blk_alloc ?_ _)); refine blk_put (cs := #[.int .i64 t1010, .int .i64 t1011, .int .i64 t1012, .int .i64 0, .int .i64 0, .string (⟨#[]⟩ : ByteArray), .string (⟨#[]⟩ : ByteArray), .slice none 0 0, .int .i64 0, .int .i64 0, .int .i64 0, .slice none 0 0, .slice none 0 0]) ?_ 3 _ rfl; (with_reducible repeat (first | refine blk_drewN ?_ _ | refine blk_drew ?_ | refine blk_alloc ?_ _)); refine blk_put (cs := #[.int .i64 t1010, .int .i64 t1011, .int .i64 0, .int .i64 0, .int .i64 0, .string (⟨#[]⟩ : ByteArray), .string (⟨#[]⟩ : ByteArray), .slice none 0 0, .int .i64 0, .int .i64 0, .int .i64 0, .slice none 0 0, .slice none 0 0]) ?_ 2 _ rfl; (with_reducible repeat (first | refine blk_drewN ?_ _ | refine blk_drew ?_ | refine blk_alloc ?_ _)); refine blk_put (cs := #[.int .i64 t1010, .int .i64 0, .int .i64 0, .int .i64 0, .int .i64 0, .string (⟨#[]⟩ : ByteArray), .string (⟨#[]⟩ : ByteArray), .slice none 0 0, .int .i64 0, .int .i64 0, .int .i64 0, .slice none 0 0, .slice none 0 0]) ?_ 1 _ rfl; (with_reducible repeat (first | refine blk_drewN ?_ _ | refine blk_drew ?_ | refine blk_alloc ?_ _)); refine blk_put (cs := #[.int .i64 0, .int .i64 0, .int .i64 0, .int .i64 0, .int .i64 0, .string (⟨#[]⟩ : ByteArray), .string (⟨#[]⟩ : ByteArray), .slice none 0 0, .int .i64 0, .int .i64 0, .int .i64 0, .slice none 0 0, .slice none 0 0]) ?_ 0 _ rfl; (with_reducible repeat (first | refine blk_drewN ?_ _ | refine blk_drew ?_ | refine blk_alloc ?_ _)); exact BK1029.out) hb); have n15_ := Aside0.mk (below_step (w := w) bW hb); clear HO980; clear HO986; clear HO989; clear HO999; clear HO1005; clear HO1008; clear HO1019; clear HO1025; clear HO1028; clear BK967; clear BK968; clear BK1029; clear HB; have HO980 := n0_; have HO986 := n1_; have HO989 := n2_; have HO999 := n3_; have HO1005 := n4_; have HO1008 := n5_; have HO1019 := n6_; have HO1025 := n7_; have HO1028 := n8_; have HO1039 := n9_; have HO1045 := n10_; have HO1048 := n11_; have BK967 := n12_; have BK968 := n13_; have BK1029 := n14_; have HB := n15_; clear n0_ n1_ n2_ n3_ n4_ n5_ n6_ n7_ n8_ n9_ n10_ n11_ n12_ n13_ n14_ n15_; (try clear hb); (try clear hb2); (try clear hk); (try clear hi); (try clear ho0); (try clear ho1); (try clear ho2)) | ((with_reducible refine gate_dst (N := 8) rfl ?_); refine bE (N := 8) (cs := #[.int .i64 0, .int .i64 0, .int .i64 0, .int .i64 0, .int .i64 0, .string (⟨#[]⟩ : ByteArray), .string (⟨#[]⟩ : ByteArray), .slice none 0 0, .int .i64 0, .int .i64 0, .int .i64 0, .slice none 0 0, .slice none 0 0]) (t := 91) ?_; intro gb1049 hg w98 hbox hb; have n0_ := Aside0.mk (Kd.R_below (pR HO980) hb); have n1_ := Aside0.mk (Kd.R_below (pR HO986) hb); have n2_ := Aside0.mk (Kd.R_below (pR HO989) hb); have n3_ := Aside0.mk (Kd.R_below (pR HO999) hb); have n4_ := Aside0.mk (Kd.R_below (pR HO1005) hb); have n5_ := Aside0.mk (Kd.R_below (pR HO1008) hb); have n6_ := Aside0.mk (Kd.R_below (pR HO1019) hb); have n7_ := Aside0.mk (Kd.R_below (pR HO1025) hb); have n8_ := Aside0.mk (Kd.R_below (pR HO1028) hb); have n9_ := Aside0.mk (Kd.R_below (pR HO1039) hb); have n10_ := Aside0.mk (Kd.R_below (pR HO1045) hb); have n11_ := Aside0.mk (Kd.R_below (pR HO1048) hb); have n12_ := Aside0.mk (kb BK967 hb); have n13_ := Aside0.mk (kb BK968 hb); have n14_ := Aside0.mk (kb BK1029 hb); have n15_ := Aside0.mk (below_step (w := w) bW hb); have n16_ := Aside0.mk (hbox); have n17_ := Aside0.mk (gS (w := w) hg); have n18_ := n17_; have n19_ := Aside0.mk (nL BK967 hg); have n20_ := Aside0.mk (nG BK967 hg); have n21_ := Aside0.mk (nL BK968 hg); have n22_ := Aside0.mk (nG BK968 hg); have n23_ := Aside0.mk (nL BK1029 hg); have n24_ := Aside0.mk (nG BK1029 hg); clear HO980; clear HO986; clear HO989; clear HO999; clear HO1005; clear HO1008; clear HO1019; clear HO1025; clear HO1028; clear HO1039; clear HO1045; clear HO1048; clear BK967; clear BK968; clear BK1029; clear HB; have HO980 := n0_; have HO986 := n1_; have HO989 := n2_; have HO999 := n3_; have HO1005 := n4_; have HO1008 := n5_; have HO1019 := n6_; have HO1025 := n7_; have HO1028 := n8_; have HO1039 := n9_; have HO1045 := n10_; have HO1048 := n11_; have BK967 := n12_; have BK968 := n13_; have BK1029 := n14_; have HB := n15_; have BK1049 := n16_; have GW1049 := n17_; have GE1049 := n18_; have NB967_1049 := n19_; have NB1049_967 := n20_; have NB968_1049 := n21_; have NB1049_968 := n22_; have NB1029_1049 := n23_; have NB1049_1029 := n24_; clear n0_ n1_ n2_ n3_ n4_ n5_ n6_ n7_ n8_ n9_ n10_ n11_ n12_ n13_ n14_ n15_ n16_ n17_ n18_ n19_ n20_ n21_ n22_ n23_ n24_; clear hb hbox hg; have hnb99 := NB1049_967.out; have hnc99 := NB967_1049.out; have hnb100 := NB1049_968.out; have hnc100 := NB968_1049.out; have hnb101 := NB1049_1029.out; have hnc101 := NB1029_1049.out; obtain ⟨hcz102_0, hcz102_1, hcz102_2, hcz102_3, hcz102_4, hcz102_5, hcz102_6, hcz102_7, hcz102_8, hcz102_9, hcz102_10, hcz102_11, hcz102_12⟩ := cz13 BK1049; obtain ⟨hfz102_0, hfz102_1, hfz102_2, hfz102_3, hfz102_4, hfz102_5, hfz102_6, hfz102_7, hfz102_8, hfz102_9, hfz102_10, hfz102_11, hfz102_12⟩ := fz13 BK1049; obtain ⟨Ao103, co103, eo103⟩ := Kd.R_slice HO1039.out; subst eo103; obtain ⟨Ao104, co104, eo104⟩ := Kd.R_slice HO1045.out; subst eo104; obtain ⟨Ao105, co105, eo105⟩ := Kd.R_slice HO1048.out; subst eo105; obtain ⟨hcz106_0, hcz106_1, hcz106_2, hcz106_3, hcz106_4, hcz106_5, hcz106_6, hcz106_7, hcz106_8, hcz106_9, hcz106_10, hcz106_11, hcz106_12⟩ := cz13 BK1029; obtain ⟨hfz106_0, hfz106_1, hfz106_2, hfz106_3, hfz106_4, hfz106_5, hfz106_6, hfz106_7, hfz106_8, hfz106_9, hfz106_10, hfz106_11, hfz106_12⟩ := fz13 BK1029) | ((with_reducible refine gate_callee (f := 53) rfl ?_); refine goesL_ (some 31) rfl rfl Try.func53 (by kernel_rfl) rfl #[.agg #[.int .i64 t1010, .int .i64 t1011, .int .i64 t1012, .int .i64 t1013, .int .i64 t1014, .string t1015, .string t1016, .slice Ao93 t1017.length co93, .int .i64 t1020, .int .i64 t1021, .int .i64 t1022, .slice Ao94 t1023.length co94, .slice Ao95 t1026.length co95], .agg #[.int .i64 t1030, .int .i64 t1031, .int .i64 t1032, .int .i64 t1033, .int .i64 t1034, .string t1035, .string t1036, .slice Ao103 t1037.length co103, .int .i64 t1040, .int .i64 t1041, .int .i64 t1042, .slice Ao104 t1043.length co104, .slice Ao105 t1046.length co105]] rfl gA ?_; (with_reducible refine (impl_SameMoment.calls k t1010 t1011 t1012 t1013 t1014 t1015 t1016 _ _ t1017 t1020 t1021 t1022 _ _ t1023 _ _ t1026 t1030 t1031 t1032 t1033 t1034 t1035 t1036 _ _ t1037 t1040 t1041 t1042 _ _ t1043 _ _ t1046 t1050 _ ?side1 ?side2 ?side3 ?side4 ?side5 ?side6 ?side7 ?side8 ?side9 ?side10 ?side11 ?side12 A24.out).mono ?_); (case side1 => refine (Kd.R_reads' (e := 134) (base := w.heap.size) (ok := fun k_ => (((True ∧ some k_ ≠ (.slice Ao80 t978.length co80 : Value).ownBlock) ∧ some k_ ≠ (.slice Ao83 t997.length co83 : Value).ownBlock) ∧ some k_ ≠ (.slice Ao103 t1037.length co103 : Value).ownBlock)) (n := t1017.length) (c := co93) ?_).2.2; exact (by (with_reducible repeat (first | apply Kd.R_alloc | apply Kd.R_drewN | apply Kd.R_drew)); exact (Kd.R_mono (Kd.R_far (p := ⟨gb1049, 12, none⟩) (Kd.R_far (p := ⟨gb1049, 11, none⟩) (Kd.R_far (p := ⟨gb1049, 10, none⟩) (Kd.R_far (p := ⟨gb1049, 9, none⟩) (Kd.R_far (p := ⟨gb1049, 8, none⟩) (Kd.R_far (p := ⟨gb1049, 7, none⟩) (Kd.R_far (p := ⟨gb1049, 6, none⟩) (Kd.R_far (p := ⟨gb1049, 5, none⟩) (Kd.R_far (p := ⟨gb1049, 4, none⟩) (Kd.R_far (p := ⟨gb1049, 3, none⟩) (Kd.R_far (p := ⟨gb1049, 2, none⟩) (Kd.R_far (p := ⟨gb1049, 1, none⟩) (Kd.R_far (p := ⟨gb1049, 0, none⟩) (Kd.R_types HO1019.out BK1049.out (by decide)) (fun _ hk => hk.2) (.int .i64 t1030)) (fun _ hk => hk.2) (.int .i64 t1031)) (fun _ hk => hk.2) (.int .i64 t1032)) (fun _ hk => hk.2) (.int .i64 t1033)) (fun _ hk => hk.2) (.int .i64 t1034)) (fun _ hk => hk.2) (.string t1035)) (fun _ hk => hk.2) (.string t1036)) (fun _ hk => hk.2) (.slice Ao103 t1037.length co103)) (fun _ hk => hk.2) (.int .i64 t1040)) (fun _ hk => hk.2) (.int .i64 t1041)) (fun _ hk => hk.2) (.int .i64 t1042)) (fun _ hk => hk.2) (.slice Ao104 t1043.length co104)) (fun _ hk => hk.2) (.slice Ao105 t1046.length co105)) (fun _ h_ => h_.1)))); (case side2 => exact (Kd.R_reads' HO1019.out).2.1); (case side3 => refine (Kd.R_reads' (e := 9) (base := w.heap.size) (ok := fun k_ => (((True ∧ some k_ ≠ (.slice Ao81 t984.length co81 : Value).ownBlock) ∧ some k_ ≠ (.slice Ao84 t1003.length co84 : Value).ownBlock) ∧ some k_ ≠ (.slice Ao104 t1043.length co104 : Value).ownBlock)) (n := t1023.length) (c := co94) ?_).2.2; exact (by (with_reducible repeat (first | apply Kd.R_alloc | apply Kd.R_drewN | apply Kd.R_drew)); exact (Kd.R_mono (Kd.R_far (p := ⟨gb1049, 12, none⟩) (Kd.R_far (p := ⟨gb1049, 11, none⟩) (Kd.R_far (p := ⟨gb1049, 10, none⟩) (Kd.R_far (p := ⟨gb1049, 9, none⟩) (Kd.R_far (p := ⟨gb1049, 8, none⟩) (Kd.R_far (p := ⟨gb1049, 7, none⟩) (Kd.R_far (p := ⟨gb1049, 6, none⟩) (Kd.R_far (p := ⟨gb1049, 5, none⟩) (Kd.R_far (p := ⟨gb1049, 4, none⟩) (Kd.R_far (p := ⟨gb1049, 3, none⟩) (Kd.R_far (p := ⟨gb1049, 2, none⟩) (Kd.R_far (p := ⟨gb1049, 1, none⟩) (Kd.R_far (p := ⟨gb1049, 0, none⟩) (Kd.R_types HO1025.out BK1049.out (by decide)) (fun _ hk => hk.2) (.int .i64 t1030)) (fun _ hk => hk.2) (.int .i64 t1031)) (fun _ hk => hk.2) (.int .i64 t1032)) (fun _ hk => hk.2) (.int .i64 t1033)) (fun _ hk => hk.2) (.int .i64 t1034)) (fun _ hk => hk.2) (.string t1035)) (fun _ hk => hk.2) (.string t1036)) (fun _ hk => hk.2) (.slice Ao103 t1037.length co103)) (fun _ hk => hk.2) (.int .i64 t1040)) (fun _ hk => hk.2) (.int .i64 t1041)) (fun _ hk => hk.2) (.int .i64 t1042)) (fun _ hk => hk.2) (.slice Ao104 t1043.length co104)) (fun _ hk => hk.2) (.slice Ao105 t1046.length co105)) (fun _ h_ => h_.1)))); (case side4 => exact (Kd.R_reads' HO1025.out).2.1); (case side5 => refine (Kd.R_reads' (e := 51) (base := w.heap.size) (ok := fun k_ => (((True ∧ some k_ ≠ (.slice Ao82 t987.length co82 : Value).ownBlock) ∧ some k_ ≠ (.slice Ao85 t1006.length co85 : Value).ownBlock) ∧ some k_ ≠ (.slice Ao105 t1046.length co105 : Value).ownBlock)) (n := t1026.length) (c := co95) ?_).2.2; exact (by (with_reducible repeat (first | apply Kd.R_alloc | apply Kd.R_drewN | apply Kd.R_drew)); exact (Kd.R_mono (Kd.R_far (p := ⟨gb1049, 12, none⟩) (Kd.R_far (p := ⟨gb1049, 11, none⟩) (Kd.R_far (p := ⟨gb1049, 10, none⟩) (Kd.R_far (p := ⟨gb1049, 9, none⟩) (Kd.R_far (p := ⟨gb1049, 8, none⟩) (Kd.R_far (p := ⟨gb1049, 7, none⟩) (Kd.R_far (p := ⟨gb1049, 6, none⟩) (Kd.R_far (p := ⟨gb1049, 5, none⟩) (Kd.R_far (p := ⟨gb1049, 4, none⟩) (Kd.R_far (p := ⟨gb1049, 3, none⟩) (Kd.R_far (p := ⟨gb1049, 2, none⟩) (Kd.R_far (p := ⟨gb1049, 1, none⟩) (Kd.R_far (p := ⟨gb1049, 0, none⟩) (Kd.R_types HO1028.out BK1049.out (by decide)) (fun _ hk => hk.2) (.int .i64 t1030)) (fun _ hk => hk.2) (.int .i64 t1031)) (fun _ hk => hk.2) (.int .i64 t1032)) (fun _ hk => hk.2) (.int .i64 t1033)) (fun _ hk => hk.2) (.int .i64 t1034)) (fun _ hk => hk.2) (.string t1035)) (fun _ hk => hk.2) (.string t1036)) (fun _ hk => hk.2) (.slice Ao103 t1037.length co103)) (fun _ hk => hk.2) (.int .i64 t1040)) (fun _ hk => hk.2) (.int .i64 t1041)) (fun _ hk => hk.2) (.int .i64 t1042)) (fun _ hk => hk.2) (.slice Ao104 t1043.length co104)) (fun _ hk => hk.2) (.slice Ao105 t1046.length co105)) (fun _ h_ => h_.1)))); (case side6 => exact (Kd.R_reads' HO1028.out).2.1); (case side7 => refine (Kd.R_reads' (e := 134) (base := w.heap.size) (ok := fun k_ => (((True ∧ some k_ ≠ (.slice Ao80 t978.length co80 : Value).ownBlock) ∧ some k_ ≠ (.slice Ao83 t997.length co83 : Value).ownBlock) ∧ some k_ ≠ (.slice Ao93 t1017.length co93 : Value).ownBlock)) (n := t1037.length) (c := co103) ?_).2.2; exact (by (with_reducible repeat (first | apply Kd.R_alloc | apply Kd.R_drewN | apply Kd.R_drew)); exact (Kd.R_mono (Kd.R_far (p := ⟨gb1049, 12, none⟩) (Kd.R_far (p := ⟨gb1049, 11, none⟩) (Kd.R_far (p := ⟨gb1049, 10, none⟩) (Kd.R_far (p := ⟨gb1049, 9, none⟩) (Kd.R_far (p := ⟨gb1049, 8, none⟩) (Kd.R_far (p := ⟨gb1049, 7, none⟩) (Kd.R_far (p := ⟨gb1049, 6, none⟩) (Kd.R_far (p := ⟨gb1049, 5, none⟩) (Kd.R_far (p := ⟨gb1049, 4, none⟩) (Kd.R_far (p := ⟨gb1049, 3, none⟩) (Kd.R_far (p := ⟨gb1049, 2, none⟩) (Kd.R_far (p := ⟨gb1049, 1, none⟩) (Kd.R_far (p := ⟨gb1049, 0, none⟩) (Kd.R_types HO1039.out BK1049.out (by decide)) (fun _ hk => hk.2) (.int .i64 t1030)) (fun _ hk => hk.2) (.int .i64 t1031)) (fun _ hk => hk.2) (.int .i64 t1032)) (fun _ hk => hk.2) (.int .i64 t1033)) (fun _ hk => hk.2) (.int .i64 t1034)) (fun _ hk => hk.2) (.string t1035)) (fun _ hk => hk.2) (.string t1036)) (fun _ hk => hk.2) (.slice Ao103 t1037.length co103)) (fun _ hk => hk.2) (.int .i64 t1040)) (fun _ hk => hk.2) (.int .i64 t1041)) (fun _ hk => hk.2) (.int .i64 t1042)) (fun _ hk => hk.2) (.slice Ao104 t1043.length co104)) (fun _ hk => hk.2) (.slice Ao105 t1046.length co105)) (fun _ h_ => h_.1)))); (case side8 => exact (Kd.R_reads' HO1039.out).2.1); (case side9 => refine (Kd.R_reads' (e := 9) (base := w.heap.size) (ok := fun k_ => (((True ∧ some k_ ≠ (.slice Ao81 t984.length co81 : Value).ownBlock) ∧ some k_ ≠ (.slice Ao84 t1003.length co84 : Value).ownBlock) ∧ some k_ ≠ (.slice Ao94 t1023.length co94 : Value).ownBlock)) (n := t1043.length) (c := co104) ?_).2.2; exact (by (with_reducible repeat (first | apply Kd.R_alloc | apply Kd.R_drewN | apply Kd.R_drew)); exact (Kd.R_mono (Kd.R_far (p := ⟨gb1049, 12, none⟩) (Kd.R_far (p := ⟨gb1049, 11, none⟩) (Kd.R_far (p := ⟨gb1049, 10, none⟩) (Kd.R_far (p := ⟨gb1049, 9, none⟩) (Kd.R_far (p := ⟨gb1049, 8, none⟩) (Kd.R_far (p := ⟨gb1049, 7, none⟩) (Kd.R_far (p := ⟨gb1049, 6, none⟩) (Kd.R_far (p := ⟨gb1049, 5, none⟩) (Kd.R_far (p := ⟨gb1049, 4, none⟩) (Kd.R_far (p := ⟨gb1049, 3, none⟩) (Kd.R_far (p := ⟨gb1049, 2, none⟩) (Kd.R_far (p := ⟨gb1049, 1, none⟩) (Kd.R_far (p := ⟨gb1049, 0, none⟩) (Kd.R_types HO1045.out BK1049.out (by decide)) (fun _ hk => hk.2) (.int .i64 t1030)) (fun _ hk => hk.2) (.int .i64 t1031)) (fun _ hk => hk.2) (.int .i64 t1032)) (fun _ hk => hk.2) (.int .i64 t1033)) (fun _ hk => hk.2) (.int .i64 t1034)) (fun _ hk => hk.2) (.string t1035)) (fun _ hk => hk.2) (.string t1036)) (fun _ hk => hk.2) (.slice Ao103 t1037.length co103)) (fun _ hk => hk.2) (.int .i64 t1040)) (fun _ hk => hk.2) (.int .i64 t1041)) (fun _ hk => hk.2) (.int .i64 t1042)) (fun _ hk => hk.2) (.slice Ao104 t1043.length co104)) (fun _ hk => hk.2) (.slice Ao105 t1046.length co105)) (fun _ h_ => h_.1)))); (case side10 => exact (Kd.R_reads' HO1045.out).2.1); (case side11 => refine (Kd.R_reads' (e := 51) (base := w.heap.size) (ok := fun k_ => (((True ∧ some k_ ≠ (.slice Ao82 t987.length co82 : Value).ownBlock) ∧ some k_ ≠ (.slice Ao85 t1006.length co85 : Value).ownBlock) ∧ some k_ ≠ (.slice Ao95 t1026.length co95 : Value).ownBlock)) (n := t1046.length) (c := co105) ?_).2.2; exact (by (with_reducible repeat (first | apply Kd.R_alloc | apply Kd.R_drewN | apply Kd.R_drew)); exact (Kd.R_mono (Kd.R_far (p := ⟨gb1049, 12, none⟩) (Kd.R_far (p := ⟨gb1049, 11, none⟩) (Kd.R_far (p := ⟨gb1049, 10, none⟩) (Kd.R_far (p := ⟨gb1049, 9, none⟩) (Kd.R_far (p := ⟨gb1049, 8, none⟩) (Kd.R_far (p := ⟨gb1049, 7, none⟩) (Kd.R_far (p := ⟨gb1049, 6, none⟩) (Kd.R_far (p := ⟨gb1049, 5, none⟩) (Kd.R_far (p := ⟨gb1049, 4, none⟩) (Kd.R_far (p := ⟨gb1049, 3, none⟩) (Kd.R_far (p := ⟨gb1049, 2, none⟩) (Kd.R_far (p := ⟨gb1049, 1, none⟩) (Kd.R_far (p := ⟨gb1049, 0, none⟩) (Kd.R_types HO1048.out BK1049.out (by decide)) (fun _ hk => hk.2) (.int .i64 t1030)) (fun _ hk => hk.2) (.int .i64 t1031)) (fun _ hk => hk.2) (.int .i64 t1032)) (fun _ hk => hk.2) (.int .i64 t1033)) (fun _ hk => hk.2) (.int .i64 t1034)) (fun _ hk => hk.2) (.string t1035)) (fun _ hk => hk.2) (.string t1036)) (fun _ hk => hk.2) (.slice Ao103 t1037.length co103)) (fun _ hk => hk.2) (.int .i64 t1040)) (fun _ hk => hk.2) (.int .i64 t1041)) (fun _ hk => hk.2) (.int .i64 t1042)) (fun _ hk => hk.2) (.slice Ao104 t1043.length co104)) (fun _ hk => hk.2) (.slice Ao105 t1046.length co105)) (fun _ h_ => h_.1)))); (case side12 => exact (Kd.R_reads' HO1048.out).2.1); rintro e w107 ⟨rfl, hb⟩; refine ⟨_, rfl, ?_⟩; have n0_ := Aside0.mk (Kd.R_below (by (with_reducible repeat (first | apply Kd.R_alloc | apply Kd.R_drewN | apply Kd.R_drew)); exact (Kd.R_mono (Kd.R_far (p := ⟨gb1049, 12, none⟩) (Kd.R_far (p := ⟨gb1049, 11, none⟩) (Kd.R_far (p := ⟨gb1049, 10, none⟩) (Kd.R_far (p := ⟨gb1049, 9, none⟩) (Kd.R_far (p := ⟨gb1049, 8, none⟩) (Kd.R_far (p := ⟨gb1049, 7, none⟩) (Kd.R_far (p := ⟨gb1049, 6, none⟩) (Kd.R_far (p := ⟨gb1049, 5, none⟩) (Kd.R_far (p := ⟨gb1049, 4, none⟩) (Kd.R_far (p := ⟨gb1049, 3, none⟩) (Kd.R_far (p := ⟨gb1049, 2, none⟩) (Kd.R_far (p := ⟨gb1049, 1, none⟩) (Kd.R_far (p := ⟨gb1049, 0, none⟩) (Kd.R_types HO980.out BK1049.out (by decide)) (fun _ hk => hk.2) (.int .i64 t1030)) (fun _ hk => hk.2) (.int .i64 t1031)) (fun _ hk => hk.2) (.int .i64 t1032)) (fun _ hk => hk.2) (.int .i64 t1033)) (fun _ hk => hk.2) (.int .i64 t1034)) (fun _ hk => hk.2) (.string t1035)) (fun _ hk => hk.2) (.string t1036)) (fun _ hk => hk.2) (.slice Ao103 t1037.length co103)) (fun _ hk => hk.2) (.int .i64 t1040)) (fun _ hk => hk.2) (.int .i64 t1041)) (fun _ hk => hk.2) (.int .i64 t1042)) (fun _ hk => hk.2) (.slice Ao104 t1043.length co104)) (fun _ hk => hk.2) (.slice Ao105 t1046.length co105)) (fun _ h_ => h_.1))) hb); have n1_ := Aside0.mk (Kd.R_below (by (with_reducible repeat (first | apply Kd.R_alloc | apply Kd.R_drewN | apply Kd.R_drew)); exact (Kd.R_mono (Kd.R_far (p := ⟨gb1049, 12, none⟩) (Kd.R_far (p := ⟨gb1049, 11, none⟩) (Kd.R_far (p := ⟨gb1049, 10, none⟩) (Kd.R_far (p := ⟨gb1049, 9, none⟩) (Kd.R_far (p := ⟨gb1049, 8, none⟩) (Kd.R_far (p := ⟨gb1049, 7, none⟩) (Kd.R_far (p := ⟨gb1049, 6, none⟩) (Kd.R_far (p := ⟨gb1049, 5, none⟩) (Kd.R_far (p := ⟨gb1049, 4, none⟩) (Kd.R_far (p := ⟨gb1049, 3, none⟩) (Kd.R_far (p := ⟨gb1049, 2, none⟩) (Kd.R_far (p := ⟨gb1049, 1, none⟩) (Kd.R_far (p := ⟨gb1049, 0, none⟩) (Kd.R_types HO986.out BK1049.out (by decide)) (fun _ hk => hk.2) (.int .i64 t1030)) (fun _ hk => hk.2) (.int .i64 t1031)) (fun _ hk => hk.2) (.int .i64 t1032)) (fun _ hk => hk.2) (.int .i64 t1033)) (fun _ hk => hk.2) (.int .i64 t1034)) (fun _ hk => hk.2) (.string t1035)) (fun _ hk => hk.2) (.string t1036)) (fun _ hk => hk.2) (.slice Ao103 t1037.length co103)) (fun _ hk => hk.2) (.int .i64 t1040)) (fun _ hk => hk.2) (.int .i64 t1041)) (fun _ hk => hk.2) (.int .i64 t1042)) (fun _ hk => hk.2) (.slice Ao104 t1043.length co104)) (fun _ hk => hk.2) (.slice Ao105 t1046.length co105)) (fun _ h_ => h_.1))) hb); have n2_ := Aside0.mk (Kd.R_below (by (with_reducible repeat (first | apply Kd.R_alloc | apply Kd.R_drewN | apply Kd.R_drew)); exact (Kd.R_mono (Kd.R_far (p := ⟨gb1049, 12, none⟩) (Kd.R_far (p := ⟨gb1049, 11, none⟩) (Kd.R_far (p := ⟨gb1049, 10, none⟩) (Kd.R_far (p := ⟨gb1049, 9, none⟩) (Kd.R_far (p := ⟨gb1049, 8, none⟩) (Kd.R_far (p := ⟨gb1049, 7, none⟩) (Kd.R_far (p := ⟨gb1049, 6, none⟩) (Kd.R_far (p := ⟨gb1049, 5, none⟩) (Kd.R_far (p := ⟨gb1049, 4, none⟩) (Kd.R_far (p := ⟨gb1049, 3, none⟩) (Kd.R_far (p := ⟨gb1049, 2, none⟩) (Kd.R_far (p := ⟨gb1049, 1, none⟩) (Kd.R_far (p := ⟨gb1049, 0, none⟩) (Kd.R_types HO989.out BK1049.out (by decide)) (fun _ hk => hk.2) (.int .i64 t1030)) (fun _ hk => hk.2) (.int .i64 t1031)) (fun _ hk => hk.2) (.int .i64 t1032)) (fun _ hk => hk.2) (.int .i64 t1033)) (fun _ hk => hk.2) (.int .i64 t1034)) (fun _ hk => hk.2) (.string t1035)) (fun _ hk => hk.2) (.string t1036)) (fun _ hk => hk.2) (.slice Ao103 t1037.length co103)) (fun _ hk => hk.2) (.int .i64 t1040)) (fun _ hk => hk.2) (.int .i64 t1041)) (fun _ hk => hk.2) (.int .i64 t1042)) (fun _ hk => hk.2) (.slice Ao104 t1043.length co104)) (fun _ hk => hk.2) (.slice Ao105 t1046.length co105)) (fun _ h_ => h_.1))) hb); have n3_ := Aside0.mk (Kd.R_below (by (with_reducible repeat (first | apply Kd.R_alloc | apply Kd.R_drewN | apply Kd.R_drew)); exact (Kd.R_mono (Kd.R_far (p := ⟨gb1049, 12, none⟩) (Kd.R_far (p := ⟨gb1049, 11, none⟩) (Kd.R_far (p := ⟨gb1049, 10, none⟩) (Kd.R_far (p := ⟨gb1049, 9, none⟩) (Kd.R_far (p := ⟨gb1049, 8, none⟩) (Kd.R_far (p := ⟨gb1049, 7, none⟩) (Kd.R_far (p := ⟨gb1049, 6, none⟩) (Kd.R_far (p := ⟨gb1049, 5, none⟩) (Kd.R_far (p := ⟨gb1049, 4, none⟩) (Kd.R_far (p := ⟨gb1049, 3, none⟩) (Kd.R_far (p := ⟨gb1049, 2, none⟩) (Kd.R_far (p := ⟨gb1049, 1, none⟩) (Kd.R_far (p := ⟨gb1049, 0, none⟩) (Kd.R_types HO999.out BK1049.out (by decide)) (fun _ hk => hk.2) (.int .i64 t1030)) (fun _ hk => hk.2) (.int .i64 t1031)) (fun _ hk => hk.2) (.int .i64 t1032)) (fun _ hk => hk.2) (.int .i64 t1033)) (fun _ hk => hk.2) (.int .i64 t1034)) (fun _ hk => hk.2) (.string t1035)) (fun _ hk => hk.2) (.string t1036)) (fun _ hk => hk.2) (.slice Ao103 t1037.length co103)) (fun _ hk => hk.2) (.int .i64 t1040)) (fun _ hk => hk.2) (.int .i64 t1041)) (fun _ hk => hk.2) (.int .i64 t1042)) (fun _ hk => hk.2) (.slice Ao104 t1043.length co104)) (fun _ hk => hk.2) (.slice Ao105 t1046.length co105)) (fun _ h_ => h_.1))) hb); have n4_ := Aside0.mk (Kd.R_below (by (with_reducible repeat (first | apply Kd.R_alloc | apply Kd.R_drewN | apply Kd.R_drew)); exact (Kd.R_mono (Kd.R_far (p := ⟨gb1049, 12, none⟩) (Kd.R_far (p := ⟨gb1049, 11, none⟩) (Kd.R_far (p := ⟨gb1049, 10, none⟩) (Kd.R_far (p := ⟨gb1049, 9, none⟩) (Kd.R_far (p := ⟨gb1049, 8, none⟩) (Kd.R_far (p := ⟨gb1049, 7, none⟩) (Kd.R_far (p := ⟨gb1049, 6, none⟩) (Kd.R_far (p := ⟨gb1049, 5, none⟩) (Kd.R_far (p := ⟨gb1049, 4, none⟩) (Kd.R_far (p := ⟨gb1049, 3, none⟩) (Kd.R_far (p := ⟨gb1049, 2, none⟩) (Kd.R_far (p := ⟨gb1049, 1, none⟩) (Kd.R_far (p := ⟨gb1049, 0, none⟩) (Kd.R_types HO1005.out BK1049.out (by decide)) (fun _ hk => hk.2) (.int .i64 t1030)) (fun _ hk => hk.2) (.int .i64 t1031)) (fun _ hk => hk.2) (.int .i64 t1032)) (fun _ hk => hk.2) (.int .i64 t1033)) (fun _ hk => hk.2) (.int .i64 t1034)) (fun _ hk => hk.2) (.string t1035)) (fun _ hk => hk.2) (.string t1036)) (fun _ hk => hk.2) (.slice Ao103 t1037.length co103)) (fun _ hk => hk.2) (.int .i64 t1040)) (fun _ hk => hk.2) (.int .i64 t1041)) (fun _ hk => hk.2) (.int .i64 t1042)) (fun _ hk => hk.2) (.slice Ao104 t1043.length co104)) (fun _ hk => hk.2) (.slice Ao105 t1046.length co105)) (fun _ h_ => h_.1))) hb); have n5_ := Aside0.mk (Kd.R_below (by (with_reducible repeat (first | apply Kd.R_alloc | apply Kd.R_drewN | apply Kd.R_drew)); exact (Kd.R_mono (Kd.R_far (p := ⟨gb1049, 12, none⟩) (Kd.R_far (p := ⟨gb1049, 11, none⟩) (Kd.R_far (p := ⟨gb1049, 10, none⟩) (Kd.R_far (p := ⟨gb1049, 9, none⟩) (Kd.R_far (p := ⟨gb1049, 8, none⟩) (Kd.R_far (p := ⟨gb1049, 7, none⟩) (Kd.R_far (p := ⟨gb1049, 6, none⟩) (Kd.R_far (p := ⟨gb1049, 5, none⟩) (Kd.R_far (p := ⟨gb1049, 4, none⟩) (Kd.R_far (p := ⟨gb1049, 3, none⟩) (Kd.R_far (p := ⟨gb1049, 2, none⟩) (Kd.R_far (p := ⟨gb1049, 1, none⟩) (Kd.R_far (p := ⟨gb1049, 0, none⟩) (Kd.R_types HO1008.out BK1049.out (by decide)) (fun _ hk => hk.2) (.int .i64 t1030)) (fun _ hk => hk.2) (.int .i64 t1031)) (fun _ hk => hk.2) (.int .i64 t1032)) (fun _ hk => hk.2) (.int .i64 t1033)) (fun _ hk => hk.2) (.int .i64 t1034)) (fun _ hk => hk.2) (.string t1035)) (fun _ hk => hk.2) (.string t1036)) (fun _ hk => hk.2) (.slice Ao103 t1037.length co103)) (fun _ hk => hk.2) (.int .i64 t1040)) (fun _ hk => hk.2) (.int .i64 t1041)) (fun _ hk => hk.2) (.int .i64 t1042)) (fun _ hk => hk.2) (.slice Ao104 t1043.length co104)) (fun _ hk => hk.2) (.slice Ao105 t1046.length co105)) (fun _ h_ => h_.1))) hb); have n6_ := Aside0.mk (Kd.R_below (by (with_reducible repeat (first | apply Kd.R_alloc | apply Kd.R_drewN | apply Kd.R_drew)); exact (Kd.R_mono (Kd.R_far (p := ⟨gb1049, 12, none⟩) (Kd.R_far (p := ⟨gb1049, 11, none⟩) (Kd.R_far (p := ⟨gb1049, 10, none⟩) (Kd.R_far (p := ⟨gb1049, 9, none⟩) (Kd.R_far (p := ⟨gb1049, 8, none⟩) (Kd.R_far (p := ⟨gb1049, 7, none⟩) (Kd.R_far (p := ⟨gb1049, 6, none⟩) (Kd.R_far (p := ⟨gb1049, 5, none⟩) (Kd.R_far (p := ⟨gb1049, 4, none⟩) (Kd.R_far (p := ⟨gb1049, 3, none⟩) (Kd.R_far (p := ⟨gb1049, 2, none⟩) (Kd.R_far (p := ⟨gb1049, 1, none⟩) (Kd.R_far (p := ⟨gb1049, 0, none⟩) (Kd.R_types HO1019.out BK1049.out (by decide)) (fun _ hk => hk.2) (.int .i64 t1030)) (fun _ hk => hk.2) (.int .i64 t1031)) (fun _ hk => hk.2) (.int .i64 t1032)) (fun _ hk => hk.2) (.int .i64 t1033)) (fun _ hk => hk.2) (.int .i64 t1034)) (fun _ hk => hk.2) (.string t1035)) (fun _ hk => hk.2) (.string t1036)) (fun _ hk => hk.2) (.slice Ao103 t1037.length co103)) (fun _ hk => hk.2) (.int .i64 t1040)) (fun _ hk => hk.2) (.int .i64 t1041)) (fun _ hk => hk.2) (.int .i64 t1042)) (fun _ hk => hk.2) (.slice Ao104 t1043.length co104)) (fun _ hk => hk.2) (.slice Ao105 t1046.length co105)) (fun _ h_ => h_.1))) hb); have n7_ := Aside0.mk (Kd.R_below (by (with_reducible repeat (first | apply Kd.R_alloc | apply Kd.R_drewN | apply Kd.R_drew)); exact (Kd.R_mono (Kd.R_far (p := ⟨gb1049, 12, none⟩) (Kd.R_far (p := ⟨gb1049, 11, none⟩) (Kd.R_far (p := ⟨gb1049, 10, none⟩) (Kd.R_far (p := ⟨gb1049, 9, none⟩) (Kd.R_far (p := ⟨gb1049, 8, none⟩) (Kd.R_far (p := ⟨gb1049, 7, none⟩) (Kd.R_far (p := ⟨gb1049, 6, none⟩) (Kd.R_far (p := ⟨gb1049, 5, none⟩) (Kd.R_far (p := ⟨gb1049, 4, none⟩) (Kd.R_far (p := ⟨gb1049, 3, none⟩) (Kd.R_far (p := ⟨gb1049, 2, none⟩) (Kd.R_far (p := ⟨gb1049, 1, none⟩) (Kd.R_far (p := ⟨gb1049, 0, none⟩) (Kd.R_types HO1025.out BK1049.out (by decide)) (fun _ hk => hk.2) (.int .i64 t1030)) (fun _ hk => hk.2) (.int .i64 t1031)) (fun _ hk => hk.2) (.int .i64 t1032)) (fun _ hk => hk.2) (.int .i64 t1033)) (fun _ hk => hk.2) (.int .i64 t1034)) (fun _ hk => hk.2) (.string t1035)) (fun _ hk => hk.2) (.string t1036)) (fun _ hk => hk.2) (.slice Ao103 t1037.length co103)) (fun _ hk => hk.2) (.int .i64 t1040)) (fun _ hk => hk.2) (.int .i64 t1041)) (fun _ hk => hk.2) (.int .i64 t1042)) (fun _ hk => hk.2) (.slice Ao104 t1043.length co104)) (fun _ hk => hk.2) (.slice Ao105 t1046.length co105)) (fun _ h_ => h_.1))) hb); have n8_ := Aside0.mk (Kd.R_below (by (with_reducible repeat (first | apply Kd.R_alloc | apply Kd.R_drewN | apply Kd.R_drew)); exact (Kd.R_mono (Kd.R_far (p := ⟨gb1049, 12, none⟩) (Kd.R_far (p := ⟨gb1049, 11, none⟩) (Kd.R_far (p := ⟨gb1049, 10, none⟩) (Kd.R_far (p := ⟨gb1049, 9, none⟩) (Kd.R_far (p := ⟨gb1049, 8, none⟩) (Kd.R_far (p := ⟨gb1049, 7, none⟩) (Kd.R_far (p := ⟨gb1049, 6, none⟩) (Kd.R_far (p := ⟨gb1049, 5, none⟩) (Kd.R_far (p := ⟨gb1049, 4, none⟩) (Kd.R_far (p := ⟨gb1049, 3, none⟩) (Kd.R_far (p := ⟨gb1049, 2, none⟩) (Kd.R_far (p := ⟨gb1049, 1, none⟩) (Kd.R_far (p := ⟨gb1049, 0, none⟩) (Kd.R_types HO1028.out BK1049.out (by decide)) (fun _ hk => hk.2) (.int .i64 t1030)) (fun _ hk => hk.2) (.int .i64 t1031)) (fun _ hk => hk.2) (.int .i64 t1032)) (fun _ hk => hk.2) (.int .i64 t1033)) (fun _ hk => hk.2) (.int .i64 t1034)) (fun _ hk => hk.2) (.string t1035)) (fun _ hk => hk.2) (.string t1036)) (fun _ hk => hk.2) (.slice Ao103 t1037.length co103)) (fun _ hk => hk.2) (.int .i64 t1040)) (fun _ hk => hk.2) (.int .i64 t1041)) (fun _ hk => hk.2) (.int .i64 t1042)) (fun _ hk => hk.2) (.slice Ao104 t1043.length co104)) (fun _ hk => hk.2) (.slice Ao105 t1046.length co105)) (fun _ h_ => h_.1))) hb); have n9_ := Aside0.mk (Kd.R_below (by (with_reducible repeat (first | apply Kd.R_alloc | apply Kd.R_drewN | apply Kd.R_drew)); exact (Kd.R_mono (Kd.R_far (p := ⟨gb1049, 12, none⟩) (Kd.R_far (p := ⟨gb1049, 11, none⟩) (Kd.R_far (p := ⟨gb1049, 10, none⟩) (Kd.R_far (p := ⟨gb1049, 9, none⟩) (Kd.R_far (p := ⟨gb1049, 8, none⟩) (Kd.R_far (p := ⟨gb1049, 7, none⟩) (Kd.R_far (p := ⟨gb1049, 6, none⟩) (Kd.R_far (p := ⟨gb1049, 5, none⟩) (Kd.R_far (p := ⟨gb1049, 4, none⟩) (Kd.R_far (p := ⟨gb1049, 3, none⟩) (Kd.R_far (p := ⟨gb1049, 2, none⟩) (Kd.R_far (p := ⟨gb1049, 1, none⟩) (Kd.R_far (p := ⟨gb1049, 0, none⟩) (Kd.R_types HO1039.out BK1049.out (by decide)) (fun _ hk => hk.2) (.int .i64 t1030)) (fun _ hk => hk.2) (.int .i64 t1031)) (fun _ hk => hk.2) (.int .i64 t1032)) (fun _ hk => hk.2) (.int .i64 t1033)) (fun _ hk => hk.2) (.int .i64 t1034)) (fun _ hk => hk.2) (.string t1035)) (fun _ hk => hk.2) (.string t1036)) (fun _ hk => hk.2) (.slice Ao103 t1037.length co103)) (fun _ hk => hk.2) (.int .i64 t1040)) (fun _ hk => hk.2) (.int .i64 t1041)) (fun _ hk => hk.2) (.int .i64 t1042)) (fun _ hk => hk.2) (.slice Ao104 t1043.length co104)) (fun _ hk => hk.2) (.slice Ao105 t1046.length co105)) (fun _ h_ => h_.1))) hb); have n10_ := Aside0.mk (Kd.R_below (by (with_reducible repeat (first | apply Kd.R_alloc | apply Kd.R_drewN | apply Kd.R_drew)); exact (Kd.R_mono (Kd.R_far (p := ⟨gb1049, 12, none⟩) (Kd.R_far (p := ⟨gb1049, 11, none⟩) (Kd.R_far (p := ⟨gb1049, 10, none⟩) (Kd.R_far (p := ⟨gb1049, 9, none⟩) (Kd.R_far (p := ⟨gb1049, 8, none⟩) (Kd.R_far (p := ⟨gb1049, 7, none⟩) (Kd.R_far (p := ⟨gb1049, 6, none⟩) (Kd.R_far (p := ⟨gb1049, 5, none⟩) (Kd.R_far (p := ⟨gb1049, 4, none⟩) (Kd.R_far (p := ⟨gb1049, 3, none⟩) (Kd.R_far (p := ⟨gb1049, 2, none⟩) (Kd.R_far (p := ⟨gb1049, 1, none⟩) (Kd.R_far (p := ⟨gb1049, 0, none⟩) (Kd.R_types HO1045.out BK1049.out (by decide)) (fun _ hk => hk.2) (.int .i64 t1030)) (fun _ hk => hk.2) (.int .i64 t1031)) (fun _ hk => hk.2) (.int .i64 t1032)) (fun _ hk => hk.2) (.int .i64 t1033)) (fun _ hk => hk.2) (.int .i64 t1034)) (fun _ hk => hk.2) (.string t1035)) (fun _ hk => hk.2) (.string t1036)) (fun _ hk => hk.2) (.slice Ao103 t1037.length co103)) (fun _ hk => hk.2) (.int .i64 t1040)) (fun _ hk => hk.2) (.int .i64 t1041)) (fun _ hk => hk.2) (.int .i64 t1042)) (fun _ hk => hk.2) (.slice Ao104 t1043.length co104)) (fun _ hk => hk.2) (.slice Ao105 t1046.length co105)) (fun _ h_ => h_.1))) hb); have n11_ := Aside0.mk (Kd.R_below (by (with_reducible repeat (first | apply Kd.R_alloc | apply Kd.R_drewN | apply Kd.R_drew)); exact (Kd.R_mono (Kd.R_far (p := ⟨gb1049, 12, none⟩) (Kd.R_far (p := ⟨gb1049, 11, none⟩) (Kd.R_far (p := ⟨gb1049, 10, none⟩) (Kd.R_far (p := ⟨gb1049, 9, none⟩) (Kd.R_far (p := ⟨gb1049, 8, none⟩) (Kd.R_far (p := ⟨gb1049, 7, none⟩) (Kd.R_far (p := ⟨gb1049, 6, none⟩) (Kd.R_far (p := ⟨gb1049, 5, none⟩) (Kd.R_far (p := ⟨gb1049, 4, none⟩) (Kd.R_far (p := ⟨gb1049, 3, none⟩) (Kd.R_far (p := ⟨gb1049, 2, none⟩) (Kd.R_far (p := ⟨gb1049, 1, none⟩) (Kd.R_far (p := ⟨gb1049, 0, none⟩) (Kd.R_types HO1048.out BK1049.out (by decide)) (fun _ hk => hk.2) (.int .i64 t1030)) (fun _ hk => hk.2) (.int .i64 t1031)) (fun _ hk => hk.2) (.int .i64 t1032)) (fun _ hk => hk.2) (.int .i64 t1033)) (fun _ hk => hk.2) (.int .i64 t1034)) (fun _ hk => hk.2) (.string t1035)) (fun _ hk => hk.2) (.string t1036)) (fun _ hk => hk.2) (.slice Ao103 t1037.length co103)) (fun _ hk => hk.2) (.int .i64 t1040)) (fun _ hk => hk.2) (.int .i64 t1041)) (fun _ hk => hk.2) (.int .i64 t1042)) (fun _ hk => hk.2) (.slice Ao104 t1043.length co104)) (fun _ hk => hk.2) (.slice Ao105 t1046.length co105)) (fun _ h_ => h_.1))) hb); have n12_ := Aside0.mk (kbF BK967 hb); have n13_ := Aside0.mk (kbF BK968 hb); have n14_ := Aside0.mk (kbF BK1029 hb); have n15_ := Aside0.mk (blk_below (g := gb1049) (o := .cells #[.int .i64 t1030, .int .i64 t1031, .int .i64 t1032, .int .i64 t1033, .int .i64 t1034, .string t1035, .string t1036, .slice Ao103 t1037.length co103, .int .i64 t1040, .int .i64 t1041, .int .i64 t1042, .slice Ao104 t1043.length co104, .slice Ao105 t1046.length co105] 91 (0, 0)) (by (with_reducible repeat (first | refine blk_drewN ?_ _ | refine blk_drew ?_ | refine blk_alloc ?_ _)); refine blk_put (cs := #[.int .i64 t1030, .int .i64 t1031, .int .i64 t1032, .int .i64 t1033, .int .i64 t1034, .string t1035, .string t1036, .slice Ao103 t1037.length co103, .int .i64 t1040, .int .i64 t1041, .int .i64 t1042, .slice Ao104 t1043.length co104, .slice none 0 0]) ?_ 12 _ rfl; (with_reducible repeat (first | refine blk_drewN ?_ _ | refine blk_drew ?_ | refine blk_alloc ?_ _)); refine blk_put (cs := #[.int .i64 t1030, .int .i64 t1031, .int .i64 t1032, .int .i64 t1033, .int .i64 t1034, .string t1035, .string t1036, .slice Ao103 t1037.length co103, .int .i64 t1040, .int .i64 t1041, .int .i64 t1042, .slice none 0 0, .slice none 0 0]) ?_ 11 _ rfl; (with_reducible repeat (first | refine blk_drewN ?_ _ | refine blk_drew ?_ | refine blk_alloc ?_ _)); refine blk_put (cs := #[.int .i64 t1030, .int .i64 t1031, .int .i64 t1032, .int .i64 t1033, .int .i64 t1034, .string t1035, .string t1036, .slice Ao103 t1037.length co103, .int .i64 t1040, .int .i64 t1041, .int .i64 0, .slice none 0 0, .slice none 0 0]) ?_ 10 _ rfl; (with_reducible repeat (first | refine blk_drewN ?_ _ | refine blk_drew ?_ | refine blk_alloc ?_ _)); refine blk_put (cs := #[.int .i64 t1030, .int .i64 t1031, .int .i64 t1032, .int .i64 t1033, .int .i64 t1034, .string t1035, .string t1036, .slice Ao103 t1037.length co103, .int .i64 t1040, .int .i64 0, .int .i64 0, .slice none 0 0, .slice none 0 0]) ?_ 9 _ rfl; (with_reducible repeat (first | refine blk_drewN ?_ _ | refine blk_drew ?_ | refine blk_alloc ?_ _)); refine blk_put (cs := #[.int .i64 t1030, .int .i64 t1031, .int .i64 t1032, .int .i64 t1033, .int .i64 t1034, .string t1035, .string t1036, .slice Ao103 t1037.length co103, .int .i64 0, .int .i64 0, .int .i64 0, .slice none 0 0, .slice none 0 0]) ?_ 8 _ rfl; (with_reducible repeat (first | refine blk_drewN ?_ _ | refine blk_drew ?_ | refine blk_alloc ?_ _)); refine blk_put (cs := #[.int .i64 t1030, .int .i64 t1031, .int .i64 t1032, .int .i64 t1033, .int .i64 t1034, .string t1035, .string t1036, .slice none 0 0, .int .i64 0, .int .i64 0, .int .i64 0, .slice none 0 0, .slice none 0 0]) ?_ 7 _ rfl; (with_reducible repeat (first | refine blk_drewN ?_ _ | refine blk_drew ?_ | refine blk_alloc ?_ _)); refine blk_put (cs := #[.int .i64 t1030, .int .i64 t1031, .int .i64 t1032, .int .i64 t1033, .int .i64 t1034, .string t1035, .string (⟨#[]⟩ : ByteArray), .slice none 0 0, .int .i64 0, .int .i64 0, .int .i64 0, .slice none 0 0, .slice none 0 0]) ?_ 6 _ rfl; (with_reducible repeat (first | refine blk_drewN ?_ _ | refine blk_drew ?_ | refine blk_alloc ?_ _)); refine blk_put (cs := #[.int .i64 t1030, .int .i64 t1031, .int .i64 t1032, .int .i64 t1033, .int .i64 t1034, .string (⟨#[]⟩ : ByteArray), .string (⟨#[]⟩ : ByteArray), .slice none 0 0, .int .i64 0, .int .i64 0, .int .i64 0, .slice none 0 0, .slice none 0 0]) ?_ 5 _ rfl; (with_reducible repeat (first | refine blk_drewN ?_ _ | refine blk_drew ?_ | refine blk_alloc ?_ _)); refine blk_put (cs := #[.int .i64 t1030, .int .i64 t1031, .int .i64 t1032, .int .i64 t1033, .int .i64 0, .string (⟨#[]⟩ : ByteArray), .string (⟨#[]⟩ : ByteArray), .slice none 0 0, .int .i64 0, .int .i64 0, .int .i64 0, .slice none 0 0, .slice none 0 0]) ?_ 4 _ rfl; (with_reducible repeat (first | refine blk_drewN ?_ _ | refine blk_drew ?_ | refine blk_alloc ?_ _)); refine blk_put (cs := #[.int .i64 t1030, .int .i64 t1031, .int .i64 t1032, .int .i64 0, .int .i64 0, .string (⟨#[]⟩ : ByteArray), .string (⟨#[]⟩ : ByteArray), .slice none 0 0, .int .i64 0, .int .i64 0, .int .i64 0, .slice none 0 0, .slice none 0 0]) ?_ 3 _ rfl; (with_reducible repeat (first | refine blk_drewN ?_ _ | refine blk_drew ?_ | refine blk_alloc ?_ _)); refine blk_put (cs := #[.int .i64 t1030, .int .i64 t1031, .int .i64 0, .int .i64 0, .int .i64 0, .string (⟨#[]⟩ : ByteArray), .string (⟨#[]⟩ : ByteArray), .slice none 0 0, .int .i64 0, .int .i64 0, .int .i64 0, .slice none 0 0, .slice none 0 0]) ?_ 2 _ rfl; (with_reducible repeat (first | refine blk_drewN ?_ _ | refine blk_drew ?_ | refine blk_alloc ?_ _)); refine blk_put (cs := #[.int .i64 t1030, .int .i64 0, .int .i64 0, .int .i64 0, .int .i64 0, .string (⟨#[]⟩ : ByteArray), .string (⟨#[]⟩ : ByteArray), .slice none 0 0, .int .i64 0, .int .i64 0, .int .i64 0, .slice none 0 0, .slice none 0 0]) ?_ 1 _ rfl; (with_reducible repeat (first | refine blk_drewN ?_ _ | refine blk_drew ?_ | refine blk_alloc ?_ _)); refine blk_put (cs := #[.int .i64 0, .int .i64 0, .int .i64 0, .int .i64 0, .int .i64 0, .string (⟨#[]⟩ : ByteArray), .string (⟨#[]⟩ : ByteArray), .slice none 0 0, .int .i64 0, .int .i64 0, .int .i64 0, .slice none 0 0, .slice none 0 0]) ?_ 0 _ rfl; (with_reducible repeat (first | refine blk_drewN ?_ _ | refine blk_drew ?_ | refine blk_alloc ?_ _)); exact BK1049.out) hb); have n16_ := Aside0.mk (below_step (w := w) bW hb); clear HO980; clear HO986; clear HO989; clear HO999; clear HO1005; clear HO1008; clear HO1019; clear HO1025; clear HO1028; clear HO1039; clear HO1045; clear HO1048; clear BK967; clear BK968; clear BK1029; clear BK1049; clear HB; have HO980 := n0_; have HO986 := n1_; have HO989 := n2_; have HO999 := n3_; have HO1005 := n4_; have HO1008 := n5_; have HO1019 := n6_; have HO1025 := n7_; have HO1028 := n8_; have HO1039 := n9_; have HO1045 := n10_; have HO1048 := n11_; have BK967 := n12_; have BK968 := n13_; have BK1029 := n14_; have BK1049 := n15_; have HB := n16_; clear n0_ n1_ n2_ n3_ n4_ n5_ n6_ n7_ n8_ n9_ n10_ n11_ n12_ n13_ n14_ n15_ n16_; (try clear hb); (try clear hb2); (try clear hk); (try clear hi)))
            have n0_ := Aside0.mk (Kd.R_drew HO980.out)
            have n1_ := Aside0.mk (Kd.R_drew HO986.out)
            have n2_ := Aside0.mk (Kd.R_drew HO989.out)
            have n3_ := Aside0.mk (Kd.R_drew HO999.out)
            have n4_ := Aside0.mk (Kd.R_drew HO1005.out)
            have n5_ := Aside0.mk (Kd.R_drew HO1008.out)
            have n6_ := Aside0.mk (Kd.R_drew HO1019.out)
            have n7_ := Aside0.mk (Kd.R_drew HO1025.out)
            have n8_ := Aside0.mk (Kd.R_drew HO1028.out)
            have n9_ := Aside0.mk (Kd.R_drew HO1039.out)
            have n10_ := Aside0.mk (Kd.R_drew HO1045.out)
            have n11_ := Aside0.mk (Kd.R_drew HO1048.out)
            have n12_ := Aside0.mk (blk_drew BK967.out)
            have n13_ := Aside0.mk (blk_drew BK968.out)
            have n14_ := Aside0.mk (blk_drew BK1029.out)
            have n15_ := Aside0.mk (blk_drew BK1049.out)
            have n16_ := Aside0.mk (below_drew1 HB.out)
            clear HO980
            clear HO986
            clear HO989
            clear HO999
            clear HO1005
            clear HO1008
            clear HO1019
            clear HO1025
            clear HO1028
            clear HO1039
            clear HO1045
            clear HO1048
            clear BK967
            clear BK968
            clear BK1029
            clear BK1049
            clear HB
            have HO980 := n0_
            have HO986 := n1_
            have HO989 := n2_
            have HO999 := n3_
            have HO1005 := n4_
            have HO1008 := n5_
            have HO1019 := n6_
            have HO1025 := n7_
            have HO1028 := n8_
            have HO1039 := n9_
            have HO1045 := n10_
            have HO1048 := n11_
            have BK967 := n12_
            have BK968 := n13_
            have BK1029 := n14_
            have BK1049 := n15_
            have HB := n16_
            clear n0_ n1_ n2_ n3_ n4_ n5_ n6_ n7_ n8_ n9_ n10_ n11_ n12_ n13_ n14_ n15_ n16_
            refine start_ (n := 5) (S := fun w' => w'.cell? ⟨gb1029, 0, none⟩ = some (.int .i64 t1010) ∧ w'.cell? ⟨gb1029, 1, none⟩ = some (.int .i64 t1011) ∧ w'.cell? ⟨gb1029, 2, none⟩ = some (.int .i64 t1012) ∧ w'.cell? ⟨gb1029, 3, none⟩ = some (.int .i64 t1013) ∧ w'.cell? ⟨gb1029, 4, none⟩ = some (.int .i64 t1014) ∧ w'.cell? ⟨gb1029, 5, none⟩ = some (.string t1015) ∧ w'.cell? ⟨gb1029, 6, none⟩ = some (.string t1016) ∧ w'.cell? ⟨gb1029, 7, none⟩ = some (.slice Ao93 t1017.length co93) ∧ w'.cell? ⟨gb1029, 8, none⟩ = some (.int .i64 t1020) ∧ w'.cell? ⟨gb1029, 9, none⟩ = some (.int .i64 t1021) ∧ w'.cell? ⟨gb1029, 10, none⟩ = some (.int .i64 t1022) ∧ w'.cell? ⟨gb1029, 11, none⟩ = some (.slice Ao94 t1023.length co94) ∧ w'.cell? ⟨gb1029, 12, none⟩ = some (.slice Ao95 t1026.length co95) ∧ w'.cell? ⟨gb967, 0, none⟩ = some (.int .i64 a0_0) ∧ w'.cell? ⟨gb967, 1, none⟩ = some (.int .i64 a0_1) ∧ w'.cell? ⟨gb967, 2, none⟩ = some (.int .i64 a0_2) ∧ w'.cell? ⟨gb967, 3, none⟩ = some (.int .i64 a0_3) ∧ w'.cell? ⟨gb967, 4, none⟩ = some (.int .i64 a0_4) ∧ w'.cell? ⟨gb967, 5, none⟩ = some (.string a0_5) ∧ w'.cell? ⟨gb967, 6, none⟩ = some (.string a0_6) ∧ w'.cell? ⟨gb967, 7, none⟩ = some (.slice A0_7 l0_7.length c0_7) ∧ w'.cell? ⟨gb967, 8, none⟩ = some (.int .i64 a0_8) ∧ w'.cell? ⟨gb967, 9, none⟩ = some (.int .i64 a0_9) ∧ w'.cell? ⟨gb967, 10, none⟩ = some (.int .i64 a0_10) ∧ w'.cell? ⟨gb967, 11, none⟩ = some (.slice A0_11 l0_11.length c0_11) ∧ w'.cell? ⟨gb967, 12, none⟩ = some (.slice A0_12 l0_12.length c0_12)) (ds := []) #[false, false, false, false, false] (by kernel_rfl) rfl rfl ⟨(blk_cell BK1029.out 0).trans rfl, (blk_cell BK1029.out 1).trans rfl, (blk_cell BK1029.out 2).trans rfl, (blk_cell BK1029.out 3).trans rfl, (blk_cell BK1029.out 4).trans rfl, (blk_cell BK1029.out 5).trans rfl, (blk_cell BK1029.out 6).trans rfl, (blk_cell BK1029.out 7).trans rfl, (blk_cell BK1029.out 8).trans rfl, (blk_cell BK1029.out 9).trans rfl, (blk_cell BK1029.out 10).trans rfl, (blk_cell BK1029.out 11).trans rfl, (blk_cell BK1029.out 12).trans rfl, (blk_cell BK967.out 0).trans rfl, (blk_cell BK967.out 1).trans rfl, (blk_cell BK967.out 2).trans rfl, (blk_cell BK967.out 3).trans rfl, (blk_cell BK967.out 4).trans rfl, (blk_cell BK967.out 5).trans rfl, (blk_cell BK967.out 6).trans rfl, (blk_cell BK967.out 7).trans rfl, (blk_cell BK967.out 8).trans rfl, (blk_cell BK967.out 9).trans rfl, (blk_cell BK967.out 10).trans rfl, (blk_cell BK967.out 11).trans rfl, (blk_cell BK967.out 12).trans rfl⟩ (fun hHeld => ?_)
            generalize w107.drew = w108 at HO980 HO986 HO989 HO999 HO1005 HO1008 HO1019 HO1025 HO1028 HO1039 HO1045 HO1048 BK967 BK968 BK1029 BK1049 HB hHeld ⊢
            refine take_ (i := 0) (N := some 35) (v := ?_) (a' := ?_) #[true, false, false, false, false] rfl rfl (by kernel_rfl) (fun _ _ _ h => h) (Or.inl ⟨by rfl, ?_⟩) hHeld ?_ ?_
            rotate_left
            · rintro w' ⟨s0, s1, s2, s3, s4, s5, s6, s7, s8, s9, s10, s11, s12, s13, s14, s15, s16, s17, s18, s19, s20, s21, s22, s23, s24, s25⟩
              go_simp
              with_reducible rfl
            rotate_left
            · simp only [Act.put, List.setIfInBounds_toArray, List.set_cons_zero, List.set_cons_succ, i64_w, i32_w]
              rfl
            refine take_ (i := 1) (N := some 36) (v := ?_) (a' := ?_) #[true, true, false, false, false] rfl rfl (by kernel_rfl) (fun _ _ _ h => h) (Or.inl ⟨by rfl, ?_⟩) hHeld ?_ ?_
            rotate_left
            · rintro w' ⟨s0, s1, s2, s3, s4, s5, s6, s7, s8, s9, s10, s11, s12, s13, s14, s15, s16, s17, s18, s19, s20, s21, s22, s23, s24, s25⟩
              go_simp
              with_reducible rfl
            rotate_left
            · simp only [Act.put, List.setIfInBounds_toArray, List.set_cons_zero, List.set_cons_succ, i64_w, i32_w]
              rfl
            refine one_ (i := 2) (N := some 37) #[true, true, true, false, false] rfl rfl (by kernel_rfl) (by decide) (fun K hK => ?_)
            refine goes_ Try.func52 (by kernel_rfl) rfl #[.agg #[.int .i64 a0_0, .int .i64 a0_1, .int .i64 a0_2, .int .i64 a0_3, .int .i64 a0_4, .string a0_5, .string a0_6, .slice A0_7 l0_7.length c0_7, .int .i64 a0_8, .int .i64 a0_9, .int .i64 a0_10, .slice A0_11 l0_11.length c0_11, .slice A0_12 l0_12.length c0_12]] (by rfl) rfl rfl gA ?_
            with_reducible refine (laws_toMoment.calls k a0_0 a0_1 a0_2 a0_3 a0_4 a0_5 a0_6 _ _ l0_7 a0_8 a0_9 a0_10 _ _ l0_11 _ _ l0_12 t1051 t1052 t1053 t1054 t1055 t1056 t1057 t1058 t1061 t1062 t1063 t1064 t1067 _ ?side1 ?side2 ?side3 ?side4 ?side5 ?side6 A64.out).mono ?_
            (case side1 => exact cB HR0_7)
            (case side2 => exact HC0_7.out)
            (case side3 => exact cB HR0_11)
            (case side4 => exact HC0_11.out)
            (case side5 => exact cB HR0_12)
            (case side6 => exact HC0_12.out)
            rintro e w109 ⟨v1059, v1065, v1068, rfl, ho0, ho1, ho2, hb⟩
            refine ⟨_, rfl, ?_⟩
            have n0_ := Aside0.mk (Kd.R_elder' (pR HO980) (Kd.R_base ho0) hb)
            have n1_ := Aside0.mk (Kd.R_elder' (pR HO986) (Kd.R_base ho1) hb)
            have n2_ := Aside0.mk (Kd.R_elder' (pR HO989) (Kd.R_base ho2) hb)
            have n3_ := Aside0.mk (Kd.R_elder' (pR HO999) (Kd.R_base ho0) hb)
            have n4_ := Aside0.mk (Kd.R_elder' (pR HO1005) (Kd.R_base ho1) hb)
            have n5_ := Aside0.mk (Kd.R_elder' (pR HO1008) (Kd.R_base ho2) hb)
            have n6_ := Aside0.mk (Kd.R_elder' (pR HO1019) (Kd.R_base ho0) hb)
            have n7_ := Aside0.mk (Kd.R_elder' (pR HO1025) (Kd.R_base ho1) hb)
            have n8_ := Aside0.mk (Kd.R_elder' (pR HO1028) (Kd.R_base ho2) hb)
            have n9_ := Aside0.mk (Kd.R_elder' (pR HO1039) (Kd.R_base ho0) hb)
            have n10_ := Aside0.mk (Kd.R_elder' (pR HO1045) (Kd.R_base ho1) hb)
            have n11_ := Aside0.mk (Kd.R_elder' (pR HO1048) (Kd.R_base ho2) hb)
            have n12_ := Aside0.mk (Kd.R_lower (Kd.R_new' (Kd.R_new' (Kd.R_new' (Kd.R_new' ho0 (Kd.R_lt (pR HO980))) (Kd.R_lt (pR HO999))) (Kd.R_lt (pR HO1019))) (Kd.R_lt (pR HO1039))) (below_size (w := w) bW))
            have n13_ := Aside0.mk (Kd.R_lower (Kd.R_new' (Kd.R_new' (Kd.R_new' (Kd.R_new' ho1 (Kd.R_lt (pR HO986))) (Kd.R_lt (pR HO1005))) (Kd.R_lt (pR HO1025))) (Kd.R_lt (pR HO1045))) (below_size (w := w) bW))
            have n14_ := Aside0.mk (Kd.R_lower (Kd.R_new' (Kd.R_new' (Kd.R_new' (Kd.R_new' ho2 (Kd.R_lt (pR HO989))) (Kd.R_lt (pR HO1008))) (Kd.R_lt (pR HO1028))) (Kd.R_lt (pR HO1048))) (below_size (w := w) bW))
            have n15_ := Aside0.mk (kb BK967 hb)
            have n16_ := Aside0.mk (kb BK968 hb)
            have n17_ := Aside0.mk (kb BK1029 hb)
            have n18_ := Aside0.mk (kb BK1049 hb)
            have n19_ := Aside0.mk (below_step (w := w) bW hb)
            clear HO980
            clear HO986
            clear HO989
            clear HO999
            clear HO1005
            clear HO1008
            clear HO1019
            clear HO1025
            clear HO1028
            clear HO1039
            clear HO1045
            clear HO1048
            clear BK967
            clear BK968
            clear BK1029
            clear BK1049
            clear HB
            have HO980 := n0_
            have HO986 := n1_
            have HO989 := n2_
            have HO999 := n3_
            have HO1005 := n4_
            have HO1008 := n5_
            have HO1019 := n6_
            have HO1025 := n7_
            have HO1028 := n8_
            have HO1039 := n9_
            have HO1045 := n10_
            have HO1048 := n11_
            have HO1060 := n12_
            have HO1066 := n13_
            have HO1069 := n14_
            have BK967 := n15_
            have BK968 := n16_
            have BK1029 := n17_
            have BK1049 := n18_
            have HB := n19_
            clear n0_ n1_ n2_ n3_ n4_ n5_ n6_ n7_ n8_ n9_ n10_ n11_ n12_ n13_ n14_ n15_ n16_ n17_ n18_ n19_
            (try clear hb)
            (try clear hb2)
            (try clear hk)
            (try clear hi)
            (try clear ho0)
            (try clear ho1)
            (try clear ho2)
            obtain ⟨Ao110, co110, eo110⟩ := Kd.R_slice HO1060.out
            (first | subst eo110 | (injection eo110 with f1_ f2_ f3_; have f4_ := f1_.symm; have f5_ := f3_.symm; clear f1_ f2_ f3_; subst f4_; subst f5_))
            obtain ⟨Ao111, co111, eo111⟩ := Kd.R_slice HO1066.out
            (first | subst eo111 | (injection eo111 with f1_ f2_ f3_; have f4_ := f1_.symm; have f5_ := f3_.symm; clear f1_ f2_ f3_; subst f4_; subst f5_))
            obtain ⟨Ao112, co112, eo112⟩ := Kd.R_slice HO1069.out
            (first | subst eo112 | (injection eo112 with f1_ f2_ f3_; have f4_ := f1_.symm; have f5_ := f3_.symm; clear f1_ f2_ f3_; subst f4_; subst f5_))
            refine hK.out _ _ ⟨(blk_cell BK1029.out 0).trans rfl, (blk_cell BK1029.out 1).trans rfl, (blk_cell BK1029.out 2).trans rfl, (blk_cell BK1029.out 3).trans rfl, (blk_cell BK1029.out 4).trans rfl, (blk_cell BK1029.out 5).trans rfl, (blk_cell BK1029.out 6).trans rfl, (blk_cell BK1029.out 7).trans rfl, (blk_cell BK1029.out 8).trans rfl, (blk_cell BK1029.out 9).trans rfl, (blk_cell BK1029.out 10).trans rfl, (blk_cell BK1029.out 11).trans rfl, (blk_cell BK1029.out 12).trans rfl, (blk_cell BK967.out 0).trans rfl, (blk_cell BK967.out 1).trans rfl, (blk_cell BK967.out 2).trans rfl, (blk_cell BK967.out 3).trans rfl, (blk_cell BK967.out 4).trans rfl, (blk_cell BK967.out 5).trans rfl, (blk_cell BK967.out 6).trans rfl, (blk_cell BK967.out 7).trans rfl, (blk_cell BK967.out 8).trans rfl, (blk_cell BK967.out 9).trans rfl, (blk_cell BK967.out 10).trans rfl, (blk_cell BK967.out 11).trans rfl, (blk_cell BK967.out 12).trans rfl⟩ (fun hHeld => ?_)
            clear hK K
            refine norm_ (a' := ?_) ?_ ?_
            rotate_left
            · show Act.put _ (some 37) _ = _
              simp only [Act.put, List.setIfInBounds_toArray, List.set_cons_zero, List.set_cons_succ, i64_w, i32_w]
              rfl
            refine one_ (i := 3) (N := some 38) #[true, true, true, true, false] rfl rfl (by kernel_rfl) (by decide) (fun K hK => ?_)
            refine goes_ Try.func54 (by kernel_rfl) rfl #[.agg #[.int .i64 t1010, .int .i64 t1011, .int .i64 t1012, .int .i64 t1013, .int .i64 t1014, .string t1015, .string t1016, .slice Ao93 t1017.length co93, .int .i64 t1020, .int .i64 t1021, .int .i64 t1022, .slice Ao94 t1023.length co94, .slice Ao95 t1026.length co95], .agg #[.int .i64 t1051, .int .i64 t1052, .int .i64 t1053, .int .i64 t1054, .int .i64 t1055, .string t1056, .string t1057, .slice Ao110 t1058.length co110, .int .i64 t1061, .int .i64 t1062, .int .i64 t1063, .slice Ao111 t1064.length co111, .slice Ao112 t1067.length co112]] (by rfl) rfl rfl gA ?_
            with_reducible refine (laws_eqMoment.calls k t1010 t1011 t1012 t1013 t1014 t1015 t1016 _ _ t1017 t1020 t1021 t1022 _ _ t1023 _ _ t1026 t1051 t1052 t1053 t1054 t1055 t1056 t1057 _ _ t1058 t1061 t1062 t1063 _ _ t1064 _ _ t1067 true _ ?side1 ?side2 ?side3 ?side4 ?side5 ?side6 ?side7 ?side8 ?side9 ?side10 ?side11 ?side12 A65.out).mono ?_
            (case side1 => repeat (first | exact (Kd.R_reads' HO1019.out).2.2 | (with_reducible refine Kd.C_alloc ?_ _) | (with_reducible refine Kd.C_drewN ?_ _) | (with_reducible refine Kd.C_drew ?_)))
            (case side2 => exact (Kd.R_reads' HO1019.out).2.1)
            (case side3 => repeat (first | exact (Kd.R_reads' HO1025.out).2.2 | (with_reducible refine Kd.C_alloc ?_ _) | (with_reducible refine Kd.C_drewN ?_ _) | (with_reducible refine Kd.C_drew ?_)))
            (case side4 => exact (Kd.R_reads' HO1025.out).2.1)
            (case side5 => repeat (first | exact (Kd.R_reads' HO1028.out).2.2 | (with_reducible refine Kd.C_alloc ?_ _) | (with_reducible refine Kd.C_drewN ?_ _) | (with_reducible refine Kd.C_drew ?_)))
            (case side6 => exact (Kd.R_reads' HO1028.out).2.1)
            (case side7 => repeat (first | exact (Kd.R_reads' HO1060.out).2.2 | (with_reducible refine Kd.C_alloc ?_ _) | (with_reducible refine Kd.C_drewN ?_ _) | (with_reducible refine Kd.C_drew ?_)))
            (case side8 => exact (Kd.R_reads' HO1060.out).2.1)
            (case side9 => repeat (first | exact (Kd.R_reads' HO1066.out).2.2 | (with_reducible refine Kd.C_alloc ?_ _) | (with_reducible refine Kd.C_drewN ?_ _) | (with_reducible refine Kd.C_drew ?_)))
            (case side10 => exact (Kd.R_reads' HO1066.out).2.1)
            (case side11 => repeat (first | exact (Kd.R_reads' HO1069.out).2.2 | (with_reducible refine Kd.C_alloc ?_ _) | (with_reducible refine Kd.C_drewN ?_ _) | (with_reducible refine Kd.C_drew ?_)))
            (case side12 => exact (Kd.R_reads' HO1069.out).2.1)
            rintro e w113 ⟨rfl, hb⟩
            refine ⟨_, rfl, ?_⟩
            have n0_ := Aside0.mk (Kd.R_below (pR HO980) hb)
            have n1_ := Aside0.mk (Kd.R_below (pR HO986) hb)
            have n2_ := Aside0.mk (Kd.R_below (pR HO989) hb)
            have n3_ := Aside0.mk (Kd.R_below (pR HO999) hb)
            have n4_ := Aside0.mk (Kd.R_below (pR HO1005) hb)
            have n5_ := Aside0.mk (Kd.R_below (pR HO1008) hb)
            have n6_ := Aside0.mk (Kd.R_below (pR HO1019) hb)
            have n7_ := Aside0.mk (Kd.R_below (pR HO1025) hb)
            have n8_ := Aside0.mk (Kd.R_below (pR HO1028) hb)
            have n9_ := Aside0.mk (Kd.R_below (pR HO1039) hb)
            have n10_ := Aside0.mk (Kd.R_below (pR HO1045) hb)
            have n11_ := Aside0.mk (Kd.R_below (pR HO1048) hb)
            have n12_ := Aside0.mk (Kd.R_below (pR HO1060) hb)
            have n13_ := Aside0.mk (Kd.R_below (pR HO1066) hb)
            have n14_ := Aside0.mk (Kd.R_below (pR HO1069) hb)
            have n15_ := Aside0.mk (kb BK967 hb)
            have n16_ := Aside0.mk (kb BK968 hb)
            have n17_ := Aside0.mk (kb BK1029 hb)
            have n18_ := Aside0.mk (kb BK1049 hb)
            have n19_ := Aside0.mk (below_step (w := w) bW hb)
            clear HO980
            clear HO986
            clear HO989
            clear HO999
            clear HO1005
            clear HO1008
            clear HO1019
            clear HO1025
            clear HO1028
            clear HO1039
            clear HO1045
            clear HO1048
            clear HO1060
            clear HO1066
            clear HO1069
            clear BK967
            clear BK968
            clear BK1029
            clear BK1049
            clear HB
            have HO980 := n0_
            have HO986 := n1_
            have HO989 := n2_
            have HO999 := n3_
            have HO1005 := n4_
            have HO1008 := n5_
            have HO1019 := n6_
            have HO1025 := n7_
            have HO1028 := n8_
            have HO1039 := n9_
            have HO1045 := n10_
            have HO1048 := n11_
            have HO1060 := n12_
            have HO1066 := n13_
            have HO1069 := n14_
            have BK967 := n15_
            have BK968 := n16_
            have BK1029 := n17_
            have BK1049 := n18_
            have HB := n19_
            clear n0_ n1_ n2_ n3_ n4_ n5_ n6_ n7_ n8_ n9_ n10_ n11_ n12_ n13_ n14_ n15_ n16_ n17_ n18_ n19_
            (try clear hb)
            (try clear hb2)
            (try clear hk)
            (try clear hi)
            refine hK.out _ _ ⟨(blk_cell BK1029.out 0).trans rfl, (blk_cell BK1029.out 1).trans rfl, (blk_cell BK1029.out 2).trans rfl, (blk_cell BK1029.out 3).trans rfl, (blk_cell BK1029.out 4).trans rfl, (blk_cell BK1029.out 5).trans rfl, (blk_cell BK1029.out 6).trans rfl, (blk_cell BK1029.out 7).trans rfl, (blk_cell BK1029.out 8).trans rfl, (blk_cell BK1029.out 9).trans rfl, (blk_cell BK1029.out 10).trans rfl, (blk_cell BK1029.out 11).trans rfl, (blk_cell BK1029.out 12).trans rfl, (blk_cell BK967.out 0).trans rfl, (blk_cell BK967.out 1).trans rfl, (blk_cell BK967.out 2).trans rfl, (blk_cell BK967.out 3).trans rfl, (blk_cell BK967.out 4).trans rfl, (blk_cell BK967.out 5).trans rfl, (blk_cell BK967.out 6).trans rfl, (blk_cell BK967.out 7).trans rfl, (blk_cell BK967.out 8).trans rfl, (blk_cell BK967.out 9).trans rfl, (blk_cell BK967.out 10).trans rfl, (blk_cell BK967.out 11).trans rfl, (blk_cell BK967.out 12).trans rfl⟩ (fun hHeld => ?_)
            clear hK K
            refine norm_ (a' := ?_) ?_ ?_
            rotate_left
            · show Act.put _ (some 38) _ = _
              simp only [Act.put, List.setIfInBounds_toArray, List.set_cons_zero, List.set_cons_succ, i64_w, i32_w]
              rfl
            refine pure_ (i := 4) (N := some 39) (v := ?_) (a' := ?_) #[true, true, true, true, true] rfl rfl (by kernel_rfl) (fun _ _ _ h => h) (Or.inl ⟨by rfl, ?_⟩) ?_ ?_
            rotate_left
            · intro w'
              go_simp
              with_reducible rfl
            rotate_left
            · simp only [Act.put, List.setIfInBounds_toArray, List.set_cons_zero, List.set_cons_succ, i64_w, i32_w]
              rfl
            refine done_ (by kernel_rfl) ?_
            try go_wp2
            have n0_ := Aside0.mk (Kd.R_drew HO980.out)
            have n1_ := Aside0.mk (Kd.R_drew HO986.out)
            have n2_ := Aside0.mk (Kd.R_drew HO989.out)
            have n3_ := Aside0.mk (Kd.R_drew HO999.out)
            have n4_ := Aside0.mk (Kd.R_drew HO1005.out)
            have n5_ := Aside0.mk (Kd.R_drew HO1008.out)
            have n6_ := Aside0.mk (Kd.R_drew HO1019.out)
            have n7_ := Aside0.mk (Kd.R_drew HO1025.out)
            have n8_ := Aside0.mk (Kd.R_drew HO1028.out)
            have n9_ := Aside0.mk (Kd.R_drew HO1039.out)
            have n10_ := Aside0.mk (Kd.R_drew HO1045.out)
            have n11_ := Aside0.mk (Kd.R_drew HO1048.out)
            have n12_ := Aside0.mk (Kd.R_drew HO1060.out)
            have n13_ := Aside0.mk (Kd.R_drew HO1066.out)
            have n14_ := Aside0.mk (Kd.R_drew HO1069.out)
            have n15_ := Aside0.mk (blk_drew BK967.out)
            have n16_ := Aside0.mk (blk_drew BK968.out)
            have n17_ := Aside0.mk (blk_drew BK1029.out)
            have n18_ := Aside0.mk (blk_drew BK1049.out)
            have n19_ := Aside0.mk (below_drew1 HB.out)
            clear HO980
            clear HO986
            clear HO989
            clear HO999
            clear HO1005
            clear HO1008
            clear HO1019
            clear HO1025
            clear HO1028
            clear HO1039
            clear HO1045
            clear HO1048
            clear HO1060
            clear HO1066
            clear HO1069
            clear BK967
            clear BK968
            clear BK1029
            clear BK1049
            clear HB
            have HO980 := n0_
            have HO986 := n1_
            have HO989 := n2_
            have HO999 := n3_
            have HO1005 := n4_
            have HO1008 := n5_
            have HO1019 := n6_
            have HO1025 := n7_
            have HO1028 := n8_
            have HO1039 := n9_
            have HO1045 := n10_
            have HO1048 := n11_
            have HO1060 := n12_
            have HO1066 := n13_
            have HO1069 := n14_
            have BK967 := n15_
            have BK968 := n16_
            have BK1029 := n17_
            have BK1049 := n18_
            have HB := n19_
            clear n0_ n1_ n2_ n3_ n4_ n5_ n6_ n7_ n8_ n9_ n10_ n11_ n12_ n13_ n14_ n15_ n16_ n17_ n18_ n19_
            refine start_ (n := 5) (S := fun w' => w'.cell? ⟨gb1049, 0, none⟩ = some (.int .i64 t1030) ∧ w'.cell? ⟨gb1049, 1, none⟩ = some (.int .i64 t1031) ∧ w'.cell? ⟨gb1049, 2, none⟩ = some (.int .i64 t1032) ∧ w'.cell? ⟨gb1049, 3, none⟩ = some (.int .i64 t1033) ∧ w'.cell? ⟨gb1049, 4, none⟩ = some (.int .i64 t1034) ∧ w'.cell? ⟨gb1049, 5, none⟩ = some (.string t1035) ∧ w'.cell? ⟨gb1049, 6, none⟩ = some (.string t1036) ∧ w'.cell? ⟨gb1049, 7, none⟩ = some (.slice Ao103 t1037.length co103) ∧ w'.cell? ⟨gb1049, 8, none⟩ = some (.int .i64 t1040) ∧ w'.cell? ⟨gb1049, 9, none⟩ = some (.int .i64 t1041) ∧ w'.cell? ⟨gb1049, 10, none⟩ = some (.int .i64 t1042) ∧ w'.cell? ⟨gb1049, 11, none⟩ = some (.slice Ao104 t1043.length co104) ∧ w'.cell? ⟨gb1049, 12, none⟩ = some (.slice Ao105 t1046.length co105) ∧ w'.cell? ⟨gb968, 0, none⟩ = some (.int .i64 a1_0) ∧ w'.cell? ⟨gb968, 1, none⟩ = some (.int .i64 a1_1) ∧ w'.cell? ⟨gb968, 2, none⟩ = some (.int .i64 a1_2) ∧ w'.cell? ⟨gb968, 3, none⟩ = some (.int .i64 a1_3) ∧ w'.cell? ⟨gb968, 4, none⟩ = some (.int .i64 a1_4) ∧ w'.cell? ⟨gb968, 5, none⟩ = some (.string a1_5) ∧ w'.cell? ⟨gb968, 6, none⟩ = some (.string a1_6) ∧ w'.cell? ⟨gb968, 7, none⟩ = some (.slice A1_7 l1_7.length c1_7) ∧ w'.cell? ⟨gb968, 8, none⟩ = some (.int .i64 a1_8) ∧ w'.cell? ⟨gb968, 9, none⟩ = some (.int .i64 a1_9) ∧ w'.cell? ⟨gb968, 10, none⟩ = some (.int .i64 a1_10) ∧ w'.cell? ⟨gb968, 11, none⟩ = some (.slice A1_11 l1_11.length c1_11) ∧ w'.cell? ⟨gb968, 12, none⟩ = some (.slice A1_12 l1_12.length c1_12)) (ds := []) #[false, false, false, false, false] (by kernel_rfl) rfl rfl ⟨(blk_cell BK1049.out 0).trans rfl, (blk_cell BK1049.out 1).trans rfl, (blk_cell BK1049.out 2).trans rfl, (blk_cell BK1049.out 3).trans rfl, (blk_cell BK1049.out 4).trans rfl, (blk_cell BK1049.out 5).trans rfl, (blk_cell BK1049.out 6).trans rfl, (blk_cell BK1049.out 7).trans rfl, (blk_cell BK1049.out 8).trans rfl, (blk_cell BK1049.out 9).trans rfl, (blk_cell BK1049.out 10).trans rfl, (blk_cell BK1049.out 11).trans rfl, (blk_cell BK1049.out 12).trans rfl, (blk_cell BK968.out 0).trans rfl, (blk_cell BK968.out 1).trans rfl, (blk_cell BK968.out 2).trans rfl, (blk_cell BK968.out 3).trans rfl, (blk_cell BK968.out 4).trans rfl, (blk_cell BK968.out 5).trans rfl, (blk_cell BK968.out 6).trans rfl, (blk_cell BK968.out 7).trans rfl, (blk_cell BK968.out 8).trans rfl, (blk_cell BK968.out 9).trans rfl, (blk_cell BK968.out 10).trans rfl, (blk_cell BK968.out 11).trans rfl, (blk_cell BK968.out 12).trans rfl⟩ (fun hHeld => ?_)
            generalize w113.drew = w114 at HO980 HO986 HO989 HO999 HO1005 HO1008 HO1019 HO1025 HO1028 HO1039 HO1045 HO1048 HO1060 HO1066 HO1069 BK967 BK968 BK1029 BK1049 HB hHeld ⊢
            refine take_ (i := 0) (N := some 40) (v := ?_) (a' := ?_) #[true, false, false, false, false] rfl rfl (by kernel_rfl) (fun _ _ _ h => h) (Or.inl ⟨by rfl, ?_⟩) hHeld ?_ ?_
            rotate_left
            · rintro w' ⟨s0, s1, s2, s3, s4, s5, s6, s7, s8, s9, s10, s11, s12, s13, s14, s15, s16, s17, s18, s19, s20, s21, s22, s23, s24, s25⟩
              go_simp
              with_reducible rfl
            rotate_left
            · simp only [Act.put, List.setIfInBounds_toArray, List.set_cons_zero, List.set_cons_succ, i64_w, i32_w]
              rfl
            refine take_ (i := 1) (N := some 41) (v := ?_) (a' := ?_) #[true, true, false, false, false] rfl rfl (by kernel_rfl) (fun _ _ _ h => h) (Or.inl ⟨by rfl, ?_⟩) hHeld ?_ ?_
            rotate_left
            · rintro w' ⟨s0, s1, s2, s3, s4, s5, s6, s7, s8, s9, s10, s11, s12, s13, s14, s15, s16, s17, s18, s19, s20, s21, s22, s23, s24, s25⟩
              go_simp
              with_reducible rfl
            rotate_left
            · simp only [Act.put, List.setIfInBounds_toArray, List.set_cons_zero, List.set_cons_succ, i64_w, i32_w]
              rfl
            refine one_ (i := 2) (N := some 42) #[true, true, true, false, false] rfl rfl (by kernel_rfl) (by decide) (fun K hK => ?_)
            refine goes_ Try.func52 (by kernel_rfl) rfl #[.agg #[.int .i64 a1_0, .int .i64 a1_1, .int .i64 a1_2, .int .i64 a1_3, .int .i64 a1_4, .string a1_5, .string a1_6, .slice A1_7 l1_7.length c1_7, .int .i64 a1_8, .int .i64 a1_9, .int .i64 a1_10, .slice A1_11 l1_11.length c1_11, .slice A1_12 l1_12.length c1_12]] (by rfl) rfl rfl gA ?_
            with_reducible refine (laws_toMoment.calls k a1_0 a1_1 a1_2 a1_3 a1_4 a1_5 a1_6 _ _ l1_7 a1_8 a1_9 a1_10 _ _ l1_11 _ _ l1_12 t1071 t1072 t1073 t1074 t1075 t1076 t1077 t1078 t1081 t1082 t1083 t1084 t1087 _ ?side1 ?side2 ?side3 ?side4 ?side5 ?side6 A67.out).mono ?_
            (case side1 => exact cB HR1_7)
            (case side2 => exact HC1_7.out)
            (case side3 => exact cB HR1_11)
            (case side4 => exact HC1_11.out)
            (case side5 => exact cB HR1_12)
            (case side6 => exact HC1_12.out)
            rintro e w115 ⟨v1079, v1085, v1088, rfl, ho0, ho1, ho2, hb⟩
            refine ⟨_, rfl, ?_⟩
            have n0_ := Aside0.mk (Kd.R_elder' (pR HO980) (Kd.R_base ho0) hb)
            have n1_ := Aside0.mk (Kd.R_elder' (pR HO986) (Kd.R_base ho1) hb)
            have n2_ := Aside0.mk (Kd.R_elder' (pR HO989) (Kd.R_base ho2) hb)
            have n3_ := Aside0.mk (Kd.R_elder' (pR HO999) (Kd.R_base ho0) hb)
            have n4_ := Aside0.mk (Kd.R_elder' (pR HO1005) (Kd.R_base ho1) hb)
            have n5_ := Aside0.mk (Kd.R_elder' (pR HO1008) (Kd.R_base ho2) hb)
            have n6_ := Aside0.mk (Kd.R_elder' (pR HO1019) (Kd.R_base ho0) hb)
            have n7_ := Aside0.mk (Kd.R_elder' (pR HO1025) (Kd.R_base ho1) hb)
            have n8_ := Aside0.mk (Kd.R_elder' (pR HO1028) (Kd.R_base ho2) hb)
            have n9_ := Aside0.mk (Kd.R_elder' (pR HO1039) (Kd.R_base ho0) hb)
            have n10_ := Aside0.mk (Kd.R_elder' (pR HO1045) (Kd.R_base ho1) hb)
            have n11_ := Aside0.mk (Kd.R_elder' (pR HO1048) (Kd.R_base ho2) hb)
            have n12_ := Aside0.mk (Kd.R_elder' (pR HO1060) (Kd.R_base ho0) hb)
            have n13_ := Aside0.mk (Kd.R_elder' (pR HO1066) (Kd.R_base ho1) hb)
            have n14_ := Aside0.mk (Kd.R_elder' (pR HO1069) (Kd.R_base ho2) hb)
            have n15_ := Aside0.mk (Kd.R_lower (Kd.R_new' (Kd.R_new' (Kd.R_new' (Kd.R_new' (Kd.R_new' ho0 (Kd.R_lt (pR HO980))) (Kd.R_lt (pR HO999))) (Kd.R_lt (pR HO1019))) (Kd.R_lt (pR HO1039))) (Kd.R_lt (pR HO1060))) (below_size (w := w) bW))
            have n16_ := Aside0.mk (Kd.R_lower (Kd.R_new' (Kd.R_new' (Kd.R_new' (Kd.R_new' (Kd.R_new' ho1 (Kd.R_lt (pR HO986))) (Kd.R_lt (pR HO1005))) (Kd.R_lt (pR HO1025))) (Kd.R_lt (pR HO1045))) (Kd.R_lt (pR HO1066))) (below_size (w := w) bW))
            have n17_ := Aside0.mk (Kd.R_lower (Kd.R_new' (Kd.R_new' (Kd.R_new' (Kd.R_new' (Kd.R_new' ho2 (Kd.R_lt (pR HO989))) (Kd.R_lt (pR HO1008))) (Kd.R_lt (pR HO1028))) (Kd.R_lt (pR HO1048))) (Kd.R_lt (pR HO1069))) (below_size (w := w) bW))
            have n18_ := Aside0.mk (kb BK967 hb)
            have n19_ := Aside0.mk (kb BK968 hb)
            have n20_ := Aside0.mk (kb BK1029 hb)
            have n21_ := Aside0.mk (kb BK1049 hb)
            have n22_ := Aside0.mk (below_step (w := w) bW hb)
            clear HO980
            clear HO986
            clear HO989
            clear HO999
            clear HO1005
            clear HO1008
            clear HO1019
            clear HO1025
            clear HO1028
            clear HO1039
            clear HO1045
            clear HO1048
            clear HO1060
            clear HO1066
            clear HO1069
            clear BK967
            clear BK968
            clear BK1029
            clear BK1049
            clear HB
            have HO980 := n0_
            have HO986 := n1_
            have HO989 := n2_
            have HO999 := n3_
            have HO1005 := n4_
            have HO1008 := n5_
            have HO1019 := n6_
            have HO1025 := n7_
            have HO1028 := n8_
            have HO1039 := n9_
            have HO1045 := n10_
            have HO1048 := n11_
            have HO1060 := n12_
            have HO1066 := n13_
            have HO1069 := n14_
            have HO1080 := n15_
            have HO1086 := n16_
            have HO1089 := n17_
            have BK967 := n18_
            have BK968 := n19_
            have BK1029 := n20_
            have BK1049 := n21_
            have HB := n22_
            clear n0_ n1_ n2_ n3_ n4_ n5_ n6_ n7_ n8_ n9_ n10_ n11_ n12_ n13_ n14_ n15_ n16_ n17_ n18_ n19_ n20_ n21_ n22_
            (try clear hb)
            (try clear hb2)
            (try clear hk)
            (try clear hi)
            (try clear ho0)
            (try clear ho1)
            (try clear ho2)
            obtain ⟨Ao116, co116, eo116⟩ := Kd.R_slice HO1080.out
            (first | subst eo116 | (injection eo116 with f1_ f2_ f3_; have f4_ := f1_.symm; have f5_ := f3_.symm; clear f1_ f2_ f3_; subst f4_; subst f5_))
            obtain ⟨Ao117, co117, eo117⟩ := Kd.R_slice HO1086.out
            (first | subst eo117 | (injection eo117 with f1_ f2_ f3_; have f4_ := f1_.symm; have f5_ := f3_.symm; clear f1_ f2_ f3_; subst f4_; subst f5_))
            obtain ⟨Ao118, co118, eo118⟩ := Kd.R_slice HO1089.out
            (first | subst eo118 | (injection eo118 with f1_ f2_ f3_; have f4_ := f1_.symm; have f5_ := f3_.symm; clear f1_ f2_ f3_; subst f4_; subst f5_))
            refine hK.out _ _ ⟨(blk_cell BK1049.out 0).trans rfl, (blk_cell BK1049.out 1).trans rfl, (blk_cell BK1049.out 2).trans rfl, (blk_cell BK1049.out 3).trans rfl, (blk_cell BK1049.out 4).trans rfl, (blk_cell BK1049.out 5).trans rfl, (blk_cell BK1049.out 6).trans rfl, (blk_cell BK1049.out 7).trans rfl, (blk_cell BK1049.out 8).trans rfl, (blk_cell BK1049.out 9).trans rfl, (blk_cell BK1049.out 10).trans rfl, (blk_cell BK1049.out 11).trans rfl, (blk_cell BK1049.out 12).trans rfl, (blk_cell BK968.out 0).trans rfl, (blk_cell BK968.out 1).trans rfl, (blk_cell BK968.out 2).trans rfl, (blk_cell BK968.out 3).trans rfl, (blk_cell BK968.out 4).trans rfl, (blk_cell BK968.out 5).trans rfl, (blk_cell BK968.out 6).trans rfl, (blk_cell BK968.out 7).trans rfl, (blk_cell BK968.out 8).trans rfl, (blk_cell BK968.out 9).trans rfl, (blk_cell BK968.out 10).trans rfl, (blk_cell BK968.out 11).trans rfl, (blk_cell BK968.out 12).trans rfl⟩ (fun hHeld => ?_)
            clear hK K
            refine norm_ (a' := ?_) ?_ ?_
            rotate_left
            · show Act.put _ (some 42) _ = _
              simp only [Act.put, List.setIfInBounds_toArray, List.set_cons_zero, List.set_cons_succ, i64_w, i32_w]
              rfl
            refine one_ (i := 3) (N := some 43) #[true, true, true, true, false] rfl rfl (by kernel_rfl) (by decide) (fun K hK => ?_)
            refine goes_ Try.func54 (by kernel_rfl) rfl #[.agg #[.int .i64 t1030, .int .i64 t1031, .int .i64 t1032, .int .i64 t1033, .int .i64 t1034, .string t1035, .string t1036, .slice Ao103 t1037.length co103, .int .i64 t1040, .int .i64 t1041, .int .i64 t1042, .slice Ao104 t1043.length co104, .slice Ao105 t1046.length co105], .agg #[.int .i64 t1071, .int .i64 t1072, .int .i64 t1073, .int .i64 t1074, .int .i64 t1075, .string t1076, .string t1077, .slice Ao116 t1078.length co116, .int .i64 t1081, .int .i64 t1082, .int .i64 t1083, .slice Ao117 t1084.length co117, .slice Ao118 t1087.length co118]] (by rfl) rfl rfl gA ?_
            with_reducible refine (laws_eqMoment.calls k t1030 t1031 t1032 t1033 t1034 t1035 t1036 _ _ t1037 t1040 t1041 t1042 _ _ t1043 _ _ t1046 t1071 t1072 t1073 t1074 t1075 t1076 t1077 _ _ t1078 t1081 t1082 t1083 _ _ t1084 _ _ t1087 true _ ?side1 ?side2 ?side3 ?side4 ?side5 ?side6 ?side7 ?side8 ?side9 ?side10 ?side11 ?side12 A68.out).mono ?_
            (case side1 => repeat (first | exact (Kd.R_reads' HO1039.out).2.2 | (with_reducible refine Kd.C_alloc ?_ _) | (with_reducible refine Kd.C_drewN ?_ _) | (with_reducible refine Kd.C_drew ?_)))
            (case side2 => exact (Kd.R_reads' HO1039.out).2.1)
            (case side3 => repeat (first | exact (Kd.R_reads' HO1045.out).2.2 | (with_reducible refine Kd.C_alloc ?_ _) | (with_reducible refine Kd.C_drewN ?_ _) | (with_reducible refine Kd.C_drew ?_)))
            (case side4 => exact (Kd.R_reads' HO1045.out).2.1)
            (case side5 => repeat (first | exact (Kd.R_reads' HO1048.out).2.2 | (with_reducible refine Kd.C_alloc ?_ _) | (with_reducible refine Kd.C_drewN ?_ _) | (with_reducible refine Kd.C_drew ?_)))
            (case side6 => exact (Kd.R_reads' HO1048.out).2.1)
            (case side7 => repeat (first | exact (Kd.R_reads' HO1080.out).2.2 | (with_reducible refine Kd.C_alloc ?_ _) | (with_reducible refine Kd.C_drewN ?_ _) | (with_reducible refine Kd.C_drew ?_)))
            (case side8 => exact (Kd.R_reads' HO1080.out).2.1)
            (case side9 => repeat (first | exact (Kd.R_reads' HO1086.out).2.2 | (with_reducible refine Kd.C_alloc ?_ _) | (with_reducible refine Kd.C_drewN ?_ _) | (with_reducible refine Kd.C_drew ?_)))
            (case side10 => exact (Kd.R_reads' HO1086.out).2.1)
            (case side11 => repeat (first | exact (Kd.R_reads' HO1089.out).2.2 | (with_reducible refine Kd.C_alloc ?_ _) | (with_reducible refine Kd.C_drewN ?_ _) | (with_reducible refine Kd.C_drew ?_)))
            (case side12 => exact (Kd.R_reads' HO1089.out).2.1)
            rintro e w119 ⟨rfl, hb⟩
            refine ⟨_, rfl, ?_⟩
            have n0_ := Aside0.mk (Kd.R_below (pR HO980) hb)
            have n1_ := Aside0.mk (Kd.R_below (pR HO986) hb)
            have n2_ := Aside0.mk (Kd.R_below (pR HO989) hb)
            have n3_ := Aside0.mk (Kd.R_below (pR HO999) hb)
            have n4_ := Aside0.mk (Kd.R_below (pR HO1005) hb)
            have n5_ := Aside0.mk (Kd.R_below (pR HO1008) hb)
            have n6_ := Aside0.mk (Kd.R_below (pR HO1019) hb)
            have n7_ := Aside0.mk (Kd.R_below (pR HO1025) hb)
            have n8_ := Aside0.mk (Kd.R_below (pR HO1028) hb)
            have n9_ := Aside0.mk (Kd.R_below (pR HO1039) hb)
            have n10_ := Aside0.mk (Kd.R_below (pR HO1045) hb)
            have n11_ := Aside0.mk (Kd.R_below (pR HO1048) hb)
            have n12_ := Aside0.mk (Kd.R_below (pR HO1060) hb)
            have n13_ := Aside0.mk (Kd.R_below (pR HO1066) hb)
            have n14_ := Aside0.mk (Kd.R_below (pR HO1069) hb)
            have n15_ := Aside0.mk (Kd.R_below (pR HO1080) hb)
            have n16_ := Aside0.mk (Kd.R_below (pR HO1086) hb)
            have n17_ := Aside0.mk (Kd.R_below (pR HO1089) hb)
            have n18_ := Aside0.mk (kb BK967 hb)
            have n19_ := Aside0.mk (kb BK968 hb)
            have n20_ := Aside0.mk (kb BK1029 hb)
            have n21_ := Aside0.mk (kb BK1049 hb)
            have n22_ := Aside0.mk (below_step (w := w) bW hb)
            clear HO980
            clear HO986
            clear HO989
            clear HO999
            clear HO1005
            clear HO1008
            clear HO1019
            clear HO1025
            clear HO1028
            clear HO1039
            clear HO1045
            clear HO1048
            clear HO1060
            clear HO1066
            clear HO1069
            clear HO1080
            clear HO1086
            clear HO1089
            clear BK967
            clear BK968
            clear BK1029
            clear BK1049
            clear HB
            have HO980 := n0_
            have HO986 := n1_
            have HO989 := n2_
            have HO999 := n3_
            have HO1005 := n4_
            have HO1008 := n5_
            have HO1019 := n6_
            have HO1025 := n7_
            have HO1028 := n8_
            have HO1039 := n9_
            have HO1045 := n10_
            have HO1048 := n11_
            have HO1060 := n12_
            have HO1066 := n13_
            have HO1069 := n14_
            have HO1080 := n15_
            have HO1086 := n16_
            have HO1089 := n17_
            have BK967 := n18_
            have BK968 := n19_
            have BK1029 := n20_
            have BK1049 := n21_
            have HB := n22_
            clear n0_ n1_ n2_ n3_ n4_ n5_ n6_ n7_ n8_ n9_ n10_ n11_ n12_ n13_ n14_ n15_ n16_ n17_ n18_ n19_ n20_ n21_ n22_
            (try clear hb)
            (try clear hb2)
            (try clear hk)
            (try clear hi)
            refine hK.out _ _ ⟨(blk_cell BK1049.out 0).trans rfl, (blk_cell BK1049.out 1).trans rfl, (blk_cell BK1049.out 2).trans rfl, (blk_cell BK1049.out 3).trans rfl, (blk_cell BK1049.out 4).trans rfl, (blk_cell BK1049.out 5).trans rfl, (blk_cell BK1049.out 6).trans rfl, (blk_cell BK1049.out 7).trans rfl, (blk_cell BK1049.out 8).trans rfl, (blk_cell BK1049.out 9).trans rfl, (blk_cell BK1049.out 10).trans rfl, (blk_cell BK1049.out 11).trans rfl, (blk_cell BK1049.out 12).trans rfl, (blk_cell BK968.out 0).trans rfl, (blk_cell BK968.out 1).trans rfl, (blk_cell BK968.out 2).trans rfl, (blk_cell BK968.out 3).trans rfl, (blk_cell BK968.out 4).trans rfl, (blk_cell BK968.out 5).trans rfl, (blk_cell BK968.out 6).trans rfl, (blk_cell BK968.out 7).trans rfl, (blk_cell BK968.out 8).trans rfl, (blk_cell BK968.out 9).trans rfl, (blk_cell BK968.out 10).trans rfl, (blk_cell BK968.out 11).trans rfl, (blk_cell BK968.out 12).trans rfl⟩ (fun hHeld => ?_)
            clear hK K
            refine norm_ (a' := ?_) ?_ ?_
            rotate_left
            · show Act.put _ (some 43) _ = _
              simp only [Act.put, List.setIfInBounds_toArray, List.set_cons_zero, List.set_cons_succ, i64_w, i32_w]
              rfl
            refine pure_ (i := 4) (N := some 44) (v := ?_) (a' := ?_) #[true, true, true, true, true] rfl rfl (by kernel_rfl) (fun _ _ _ h => h) (Or.inl ⟨by rfl, ?_⟩) ?_ ?_
            rotate_left
            · intro w'
              go_simp
              with_reducible rfl
            rotate_left
            · simp only [Act.put, List.setIfInBounds_toArray, List.set_cons_zero, List.set_cons_succ, i64_w, i32_w]
              rfl
            refine done_ (by kernel_rfl) ?_
            try go_wp2
            go_ret
            exact ⟨rE, bW⟩
          · replace c69 := Bool.eq_false_iff.mpr c69
            subst c69
            have H1 : (some false) = some true := by rw [if_neg (show ¬ (false = true) by decide)] at H; exact H
            exact absurd H1 (by simp)
        · replace c66 := Bool.eq_false_iff.mpr c66
          subst c66
          have H1 : (some false) = some true := by rw [if_neg (show ¬ (false = true) by decide)] at H; exact H
          exact absurd H1 (by simp)
end Go.Proofs.Ytcpljigliklgcaa.Q
end

section
namespace Go.Proofs.Ytcpljigliklgcaa.Q
open Go.RowKit Go.Proofs.YtcpljigliklgcaaW.PrintWords Go.Proofs.YtcpljigliklgcaaW.PrintLast Go.Proofs.YtcpljigliklgcaaW.PrintMore
attribute [local go_sem] max2_int min2_int max_two min_two max_three min_three max_four min_four   -- for this text's walks alone
set_option linter.unusedVariables false
set_option linter.unusedSimpArgs false
attribute [local go_sem] bin_leq bin_gtr bin_geq
def Opens {α : Type} (P : Program) (d : Kd α) (t : TypeId) (G : α → Prop) : Prop :=
  P.cellsOf t = d.sz ∧ ∀ {H : Type} (enc : TypeId × Value → H) (w : World) (base : Nat) (spare : Nat → Bool) (held : Bool) (fuel : Nat) (cs : List Value) (x : DataW H × List MemPlace),
    DataW.trod enc P w base spare held fuel t cs = some x → ∃ v, d.K w v cs ∧ G v
theorem add_twice (a : Addr) (m i : Nat) : (a.add m).add i = a.add (m + i) := by
  unfold Addr.add
  by_cases h1 : m = 0 <;> by_cases h2 : i = 0 <;> simp_all [Nat.add_assoc]
theorem opens_int {P : Program} {t : TypeId} {k : IntKind} (ht : P.underlying t = some (.int k)) (hc : P.cellsOf t = 1) : Opens P (Kd.int k) t (fun n => (Lit.int k n).wf = true) := by
  refine ⟨hc, fun enc w base spare held fuel cs x h => ?_⟩
  cases fuel with
  | zero => simp [DataW.trod] at h
  | succ n =>
    unfold DataW.trod at h
    rw [ht] at h
    split at h <;> simp_all
    obtain ⟨⟨rfl, h1⟩, _⟩ := h
    exact ⟨_, rfl, h1⟩
theorem opens_bool {P : Program} {t : TypeId} (ht : P.underlying t = some .bool) (hc : P.cellsOf t = 1) : Opens P Kd.bool t (fun _ => True) := by
  refine ⟨hc, fun enc w base spare held fuel cs x h => ?_⟩
  cases fuel with
  | zero => simp [DataW.trod] at h
  | succ n =>
    unfold DataW.trod at h
    rw [ht] at h
    split at h <;> simp_all
    rename_i b
    cases b
    · exact .inl rfl
    · exact .inr rfl
theorem opens_string {P : Program} {t : TypeId} (ht : P.underlying t = some .string) (hc : P.cellsOf t = 1) : Opens P Kd.string t (fun s => s.size ≤ 9223372036854775807) := by
  refine ⟨hc, fun enc w base spare held fuel cs x h => ?_⟩
  cases fuel with
  | zero => simp [DataW.trod] at h
  | succ n =>
    unfold DataW.trod at h
    rw [ht] at h
    split at h <;> simp_all
    exact ⟨_, rfl, h.1⟩
theorem list_of {α : Type} {Q : Nat → α → Prop} : ∀ n, (∀ i, i < n → ∃ v, Q i v) → ∃ l : List α, l.length = n ∧ ∀ i v, l[i]? = some v → Q i v
  | 0, _ => ⟨[], rfl, fun i v h => by simp at h⟩
  | n + 1, h => by
    obtain ⟨l, hl, hq⟩ := list_of n (fun i hi => h i (by omega))
    obtain ⟨v, hv⟩ := h n (by omega)
    refine ⟨l ++ [v], by simp [hl], fun i u hu => ?_⟩
    by_cases hi : i < l.length
    · rw [List.getElem?_append_left hi] at hu
      exact hq i u hu
    · have hi2 : i = l.length := by
        have := (List.getElem?_eq_some_iff.1 hu).1
        rw [List.length_append, List.length_singleton] at this
        omega
      subst hi2
      have hu' : v = u := by simpa using hu
      subst hu'
      rw [hl]
      exact hv
theorem opens_slice {α : Type} {P : Program} {d : Kd α} {t e : TypeId} {G : α → Prop} (ht : P.underlying t = some (.slice e)) (hc : P.cellsOf t = 1) (O : Opens P d e G) :
    Opens P (Kd.slice e d) t (fun l => l.length ≤ 9223372036854775807 ∧ ∀ x, x ∈ l → G x) := by
  refine ⟨hc, fun enc w base spare held fuel cs x h => ?_⟩
  rcases DataW.trod_slice ht h with ⟨rfl, _⟩ | ⟨a, len, cap, elems, rest, n, _, rfl, _, hb, hl, hm, hlen, hel, _, _⟩
  · exact ⟨[], ⟨none, 0, rfl, Nat.le_refl _, Kd.C_nil d w⟩, by simp, fun x hx => by simp at hx⟩
  · have each : ∀ i, i < len → ∃ v : α, (∃ c, c.length = d.sz ∧ d.K w v c ∧ ∀ j u, c[j]? = some u → w.cell? (a.add (i * d.sz + j)) = some u) ∧ G v := by
      intro i hi
      have h1 := hel i hi
      have h2 : elems[i]? = some (elems[i]'(by omega)) := List.getElem?_eq_getElem (by omega)
      rw [h2, Option.bind_eq_some_iff] at h1
      obtain ⟨c, hcc, htr⟩ := h1
      obtain ⟨v, hK, hG⟩ := O.2 enc w base spare held n c _ htr
      obtain ⟨_, hcl, hcells⟩ := World.cells?_some hcc
      refine ⟨v, ⟨c, d.K_len hK, hK, fun j u hu => ?_⟩, hG⟩
      have hj : j < c.length := (List.getElem?_eq_some_iff.1 hu).1
      have := hcells j (by omega)
      rw [hu, add_twice, O.1] at this
      exact this
    obtain ⟨l, hll, hq⟩ := list_of len each
    refine ⟨l, ⟨some a, cap, by rw [hll], by omega, hll ▸ ?_⟩, by unfold maxLen at hm; omega, fun x hx => ?_⟩
    · refine ⟨hll, by unfold maxLen at hm; omega, fun hp => ⟨a, rfl, fun j p hj => ?_⟩⟩
      obtain ⟨c, h1, h2, h3⟩ := (hq j p hj).1
      exact ⟨c, h1, h2, h3⟩
    · obtain ⟨i, hi, rfl⟩ := List.mem_iff_getElem.mp hx
      exact (hq i _ (List.getElem?_eq_getElem hi)).2
end Go.Proofs.Ytcpljigliklgcaa.Q
end

section
namespace Go.Proofs.Ytcpljigliklgcaa.Q
open Go.RowKit Go.Proofs.YtcpljigliklgcaaW.PrintWords Go.Proofs.YtcpljigliklgcaaW.PrintLast Go.Proofs.YtcpljigliklgcaaW.PrintMore
attribute [local go_sem] max2_int min2_int max_two min_two max_three min_three max_four min_four   -- for this text's walks alone
set_option linter.unusedVariables false
set_option linter.unusedSimpArgs false
attribute [local go_sem] bin_leq bin_gtr bin_geq
def good142 (x : S142) : Prop := (fun s => s.size ≤ 9223372036854775807) x.f0 ∧ (fun n => (Lit.int .i64 n).wf = true) x.f1 ∧ (fun _ => True) x.f2
set_option maxRecDepth 100000 in
theorem opens_142 : Opens Try.prog k142 142 good142 := by
  refine ⟨by kernel_rfl, fun enc w base spare held fuel cs x h => ?_⟩
  obtain ⟨xs, n, _, _, hcl, hxl, hf⟩ := DataW.trod_struct Try.underlying142 h
  have hcl2 : cs.length = 3 := hcl.trans (by kernel_rfl)
  obtain ⟨c0, c1, c2, rfl⟩ : ∃ c0 c1 c2, cs = [c0, c1, c2] := by
    match cs, hcl2 with
    | [c0, c1, c2], _ => exact ⟨c0, c1, c2, rfl⟩
  have h0 := hf 0 _ rfl
  rw [List.getElem?_eq_getElem (show 0 < xs.length by rw [hxl]; decide)] at h0
  obtain ⟨v0, K0, G0⟩ := (opens_string Try.underlying9 (by kernel_rfl)).2 enc w base spare held n [c0] _ ((show DataW.trod enc Try.prog w base spare held n 9 [c0] = _ from (by first | exact h0 | (rw [show Try.prog.cellsOf 9 = 1 by kernel_rfl] at h0; exact h0))))
  have h1 := hf 1 _ rfl
  rw [List.getElem?_eq_getElem (show 1 < xs.length by rw [hxl]; decide)] at h1
  obtain ⟨v1, K1, G1⟩ := (opens_int (k := .i64) Try.underlying3 (by kernel_rfl)).2 enc w base spare held n [c1] _ ((show DataW.trod enc Try.prog w base spare held n 3 [c1] = _ from (by first | exact h1 | (rw [show Try.prog.cellsOf 3 = 1 by kernel_rfl] at h1; exact h1))))
  have h2 := hf 2 _ rfl
  rw [List.getElem?_eq_getElem (show 2 < xs.length by rw [hxl]; decide)] at h2
  obtain ⟨v2, K2, G2⟩ := (opens_bool Try.underlying4 (by kernel_rfl)).2 enc w base spare held n [c2] _ ((show DataW.trod enc Try.prog w base spare held n 4 [c2] = _ from (by first | exact h2 | (rw [show Try.prog.cellsOf 4 = 1 by kernel_rfl] at h2; exact h2))))
  exact ⟨⟨v0, v1, v2⟩, ⟨[c0], [c1, c2], rfl, K0, ⟨[c1], [c2], rfl, K1, K2⟩⟩, ⟨G0, G1, G2⟩⟩
end Go.Proofs.Ytcpljigliklgcaa.Q
end

section
namespace Go.Proofs.Ytcpljigliklgcaa.Q
open Go.RowKit Go.Proofs.YtcpljigliklgcaaW.PrintWords Go.Proofs.YtcpljigliklgcaaW.PrintLast Go.Proofs.YtcpljigliklgcaaW.PrintMore
attribute [local go_sem] max2_int min2_int max_two min_two max_three min_three max_four min_four   -- for this text's walks alone
set_option linter.unusedVariables false
set_option linter.unusedSimpArgs false
attribute [local go_sem] bin_leq bin_gtr bin_geq
def good79 (x : S79) : Prop := (fun n => (Lit.int .i64 n).wf = true) x.f0 ∧ (fun n => (Lit.int .i64 n).wf = true) x.f1 ∧ (fun s => s.size ≤ 9223372036854775807) x.f2 ∧ (fun s => s.size ≤ 9223372036854775807) x.f3 ∧ (fun l => l.length ≤ 9223372036854775807 ∧ ∀ x, x ∈ l → good142 x) x.f4
set_option maxRecDepth 100000 in
theorem opens_79 : Opens Try.prog k79 79 good79 := by
  refine ⟨by kernel_rfl, fun enc w base spare held fuel cs x h => ?_⟩
  obtain ⟨xs, n, _, _, hcl, hxl, hf⟩ := DataW.trod_struct Try.underlying79 h
  have hcl2 : cs.length = 5 := hcl.trans (by kernel_rfl)
  obtain ⟨c0, c1, c2, c3, c4, rfl⟩ : ∃ c0 c1 c2 c3 c4, cs = [c0, c1, c2, c3, c4] := by
    match cs, hcl2 with
    | [c0, c1, c2, c3, c4], _ => exact ⟨c0, c1, c2, c3, c4, rfl⟩
  have h0 := hf 0 _ rfl
  rw [List.getElem?_eq_getElem (show 0 < xs.length by rw [hxl]; decide)] at h0
  obtain ⟨v0, K0, G0⟩ := (opens_int (k := .i64) Try.underlying3 (by kernel_rfl)).2 enc w base spare held n [c0] _ ((show DataW.trod enc Try.prog w base spare held n 3 [c0] = _ from (by first | exact h0 | (rw [show Try.prog.cellsOf 3 = 1 by kernel_rfl] at h0; exact h0))))
  have h1 := hf 1 _ rfl
  rw [List.getElem?_eq_getElem (show 1 < xs.length by rw [hxl]; decide)] at h1
  obtain ⟨v1, K1, G1⟩ := (opens_int (k := .i64) Try.underlying3 (by kernel_rfl)).2 enc w base spare held n [c1] _ ((show DataW.trod enc Try.prog w base spare held n 3 [c1] = _ from (by first | exact h1 | (rw [show Try.prog.cellsOf 3 = 1 by kernel_rfl] at h1; exact h1))))
  have h2 := hf 2 _ rfl
  rw [List.getElem?_eq_getElem (show 2 < xs.length by rw [hxl]; decide)] at h2
  obtain ⟨v2, K2, G2⟩ := (opens_string Try.underlying9 (by kernel_rfl)).2 enc w base spare held n [c2] _ ((show DataW.trod enc Try.prog w base spare held n 9 [c2] = _ from (by first | exact h2 | (rw [show Try.prog.cellsOf 9 = 1 by kernel_rfl] at h2; exact h2))))
  have h3 := hf 3 _ rfl
  rw [List.getElem?_eq_getElem (show 3 < xs.length by rw [hxl]; decide)] at h3
  obtain ⟨v3, K3, G3⟩ := (opens_string Try.underlying9 (by kernel_rfl)).2 enc w base spare held n [c3] _ ((show DataW.trod enc Try.prog w base spare held n 9 [c3] = _ from (by first | exact h3 | (rw [show Try.prog.cellsOf 9 = 1 by kernel_rfl] at h3; exact h3))))
  have h4 := hf 4 _ rfl
  rw [List.getElem?_eq_getElem (show 4 < xs.length by rw [hxl]; decide)] at h4
  obtain ⟨v4, K4, G4⟩ := (opens_slice Try.underlying33 (by kernel_rfl) opens_142).2 enc w base spare held n [c4] _ ((show DataW.trod enc Try.prog w base spare held n 33 [c4] = _ from (by first | exact h4 | (rw [show Try.prog.cellsOf 33 = 1 by kernel_rfl] at h4; exact h4))))
  exact ⟨⟨v0, v1, v2, v3, v4⟩, ⟨[c0], [c1, c2, c3, c4], rfl, K0, ⟨[c1], [c2, c3, c4], rfl, K1, ⟨[c2], [c3, c4], rfl, K2, ⟨[c3], [c4], rfl, K3, K4⟩⟩⟩⟩, ⟨G0, G1, G2, G3, G4⟩⟩
end Go.Proofs.Ytcpljigliklgcaa.Q
end

section
namespace Go.Proofs.Ytcpljigliklgcaa.Q
open Go.RowKit Go.Proofs.YtcpljigliklgcaaW.PrintWords Go.Proofs.YtcpljigliklgcaaW.PrintLast Go.Proofs.YtcpljigliklgcaaW.PrintMore
attribute [local go_sem] max2_int min2_int max_two min_two max_three min_three max_four min_four   -- for this text's walks alone
set_option linter.unusedVariables false
set_option linter.unusedSimpArgs false
attribute [local go_sem] bin_leq bin_gtr bin_geq
def good125 (x : S125) : Prop := (fun s => s.size ≤ 9223372036854775807) x.f0 ∧ (fun n => (Lit.int .i64 n).wf = true) x.f1
set_option maxRecDepth 100000 in
theorem opens_125 : Opens Try.prog k125 125 good125 := by
  refine ⟨by kernel_rfl, fun enc w base spare held fuel cs x h => ?_⟩
  obtain ⟨xs, n, _, _, hcl, hxl, hf⟩ := DataW.trod_struct Try.underlying125 h
  have hcl2 : cs.length = 2 := hcl.trans (by kernel_rfl)
  obtain ⟨c0, c1, rfl⟩ : ∃ c0 c1, cs = [c0, c1] := by
    match cs, hcl2 with
    | [c0, c1], _ => exact ⟨c0, c1, rfl⟩
  have h0 := hf 0 _ rfl
  rw [List.getElem?_eq_getElem (show 0 < xs.length by rw [hxl]; decide)] at h0
  obtain ⟨v0, K0, G0⟩ := (opens_string Try.underlying9 (by kernel_rfl)).2 enc w base spare held n [c0] _ ((show DataW.trod enc Try.prog w base spare held n 9 [c0] = _ from (by first | exact h0 | (rw [show Try.prog.cellsOf 9 = 1 by kernel_rfl] at h0; exact h0))))
  have h1 := hf 1 _ rfl
  rw [List.getElem?_eq_getElem (show 1 < xs.length by rw [hxl]; decide)] at h1
  obtain ⟨v1, K1, G1⟩ := (opens_int (k := .i64) Try.underlying3 (by kernel_rfl)).2 enc w base spare held n [c1] _ ((show DataW.trod enc Try.prog w base spare held n 3 [c1] = _ from (by first | exact h1 | (rw [show Try.prog.cellsOf 3 = 1 by kernel_rfl] at h1; exact h1))))
  exact ⟨⟨v0, v1⟩, ⟨[c0], [c1], rfl, K0, K1⟩, ⟨G0, G1⟩⟩
end Go.Proofs.Ytcpljigliklgcaa.Q
end

section
namespace Go.Proofs.Ytcpljigliklgcaa.Q
open Go.RowKit Go.Proofs.YtcpljigliklgcaaW.PrintWords Go.Proofs.YtcpljigliklgcaaW.PrintLast Go.Proofs.YtcpljigliklgcaaW.PrintMore
attribute [local go_sem] max2_int min2_int max_two min_two max_three min_three max_four min_four   -- for this text's walks alone
set_option linter.unusedVariables false
set_option linter.unusedSimpArgs false
attribute [local go_sem] bin_leq bin_gtr bin_geq
def good81 (x : S81) : Prop := (fun n => (Lit.int .i64 n).wf = true) x.f0 ∧ (fun n => (Lit.int .i64 n).wf = true) x.f1 ∧ (fun n => (Lit.int .i64 n).wf = true) x.f2 ∧ (fun l => l.length ≤ 9223372036854775807 ∧ ∀ x, x ∈ l → (fun s => s.size ≤ 9223372036854775807) x) x.f3 ∧ (fun l => l.length ≤ 9223372036854775807 ∧ ∀ x, x ∈ l → good125 x) x.f4
set_option maxRecDepth 100000 in
theorem opens_81 : Opens Try.prog k81 81 good81 := by
  refine ⟨by kernel_rfl, fun enc w base spare held fuel cs x h => ?_⟩
  obtain ⟨xs, n, _, _, hcl, hxl, hf⟩ := DataW.trod_struct Try.underlying81 h
  have hcl2 : cs.length = 5 := hcl.trans (by kernel_rfl)
  obtain ⟨c0, c1, c2, c3, c4, rfl⟩ : ∃ c0 c1 c2 c3 c4, cs = [c0, c1, c2, c3, c4] := by
    match cs, hcl2 with
    | [c0, c1, c2, c3, c4], _ => exact ⟨c0, c1, c2, c3, c4, rfl⟩
  have h0 := hf 0 _ rfl
  rw [List.getElem?_eq_getElem (show 0 < xs.length by rw [hxl]; decide)] at h0
  obtain ⟨v0, K0, G0⟩ := (opens_int (k := .i64) Try.underlying3 (by kernel_rfl)).2 enc w base spare held n [c0] _ ((show DataW.trod enc Try.prog w base spare held n 3 [c0] = _ from (by first | exact h0 | (rw [show Try.prog.cellsOf 3 = 1 by kernel_rfl] at h0; exact h0))))
  have h1 := hf 1 _ rfl
  rw [List.getElem?_eq_getElem (show 1 < xs.length by rw [hxl]; decide)] at h1
  obtain ⟨v1, K1, G1⟩ := (opens_int (k := .i64) Try.underlying3 (by kernel_rfl)).2 enc w base spare held n [c1] _ ((show DataW.trod enc Try.prog w base spare held n 3 [c1] = _ from (by first | exact h1 | (rw [show Try.prog.cellsOf 3 = 1 by kernel_rfl] at h1; exact h1))))
  have h2 := hf 2 _ rfl
  rw [List.getElem?_eq_getElem (show 2 < xs.length by rw [hxl]; decide)] at h2
  obtain ⟨v2, K2, G2⟩ := (opens_int (k := .i64) Try.underlying3 (by kernel_rfl)).2 enc w base spare held n [c2] _ ((show DataW.trod enc Try.prog w base spare held n 3 [c2] = _ from (by first | exact h2 | (rw [show Try.prog.cellsOf 3 = 1 by kernel_rfl] at h2; exact h2))))
  have h3 := hf 3 _ rfl
  rw [List.getElem?_eq_getElem (show 3 < xs.length by rw [hxl]; decide)] at h3
  obtain ⟨v3, K3, G3⟩ := (opens_slice Try.underlying52 (by kernel_rfl) (opens_string Try.underlying9 (by kernel_rfl))).2 enc w base spare held n [c3] _ ((show DataW.trod enc Try.prog w base spare held n 52 [c3] = _ from (by first | exact h3 | (rw [show Try.prog.cellsOf 52 = 1 by kernel_rfl] at h3; exact h3))))
  have h4 := hf 4 _ rfl
  rw [List.getElem?_eq_getElem (show 4 < xs.length by rw [hxl]; decide)] at h4
  obtain ⟨v4, K4, G4⟩ := (opens_slice Try.underlying22 (by kernel_rfl) opens_125).2 enc w base spare held n [c4] _ ((show DataW.trod enc Try.prog w base spare held n 22 [c4] = _ from (by first | exact h4 | (rw [show Try.prog.cellsOf 22 = 1 by kernel_rfl] at h4; exact h4))))
  exact ⟨⟨v0, v1, v2, v3, v4⟩, ⟨[c0], [c1, c2, c3, c4], rfl, K0, ⟨[c1], [c2, c3, c4], rfl, K1, ⟨[c2], [c3, c4], rfl, K2, ⟨[c3], [c4], rfl, K3, K4⟩⟩⟩⟩, ⟨G0, G1, G2, G3, G4⟩⟩
end Go.Proofs.Ytcpljigliklgcaa.Q
end

section
namespace Go.Proofs.Ytcpljigliklgcaa.Q
open Go.RowKit Go.Proofs.YtcpljigliklgcaaW.PrintWords Go.Proofs.YtcpljigliklgcaaW.PrintLast Go.Proofs.YtcpljigliklgcaaW.PrintMore
attribute [local go_sem] max2_int min2_int max_two min_two max_three min_three max_four min_four   -- for this text's walks alone
set_option linter.unusedVariables false
set_option linter.unusedSimpArgs false
attribute [local go_sem] bin_leq bin_gtr bin_geq
def good83 (x : S83) : Prop := (fun n => (Lit.int .i64 n).wf = true) x.f0 ∧ (fun n => (Lit.int .i64 n).wf = true) x.f1 ∧ (fun n => (Lit.int .i64 n).wf = true) x.f2 ∧ good79 x.f3 ∧ good81 x.f4
set_option maxRecDepth 100000 in
theorem opens_83 : Opens Try.prog k83 83 good83 := by
  refine ⟨by kernel_rfl, fun enc w base spare held fuel cs x h => ?_⟩
  obtain ⟨xs, n, _, _, hcl, hxl, hf⟩ := DataW.trod_struct Try.underlying83 h
  have hcl2 : cs.length = 13 := hcl.trans (by kernel_rfl)
  obtain ⟨c0, c1, c2, c3, c4, c5, c6, c7, c8, c9, c10, c11, c12, rfl⟩ : ∃ c0 c1 c2 c3 c4 c5 c6 c7 c8 c9 c10 c11 c12, cs = [c0, c1, c2, c3, c4, c5, c6, c7, c8, c9, c10, c11, c12] := by
    match cs, hcl2 with
    | [c0, c1, c2, c3, c4, c5, c6, c7, c8, c9, c10, c11, c12], _ => exact ⟨c0, c1, c2, c3, c4, c5, c6, c7, c8, c9, c10, c11, c12, rfl⟩
  have h0 := hf 0 _ rfl
  rw [List.getElem?_eq_getElem (show 0 < xs.length by rw [hxl]; decide)] at h0
  obtain ⟨v0, K0, G0⟩ := (opens_int (k := .i64) Try.underlying3 (by kernel_rfl)).2 enc w base spare held n [c0] _ ((show DataW.trod enc Try.prog w base spare held n 3 [c0] = _ from (by first | exact h0 | (rw [show Try.prog.cellsOf 3 = 1 by kernel_rfl] at h0; exact h0))))
  have h1 := hf 1 _ rfl
  rw [List.getElem?_eq_getElem (show 1 < xs.length by rw [hxl]; decide)] at h1
  obtain ⟨v1, K1, G1⟩ := (opens_int (k := .i64) Try.underlying3 (by kernel_rfl)).2 enc w base spare held n [c1] _ ((show DataW.trod enc Try.prog w base spare held n 3 [c1] = _ from (by first | exact h1 | (rw [show Try.prog.cellsOf 3 = 1 by kernel_rfl] at h1; exact h1))))
  have h2 := hf 2 _ rfl
  rw [List.getElem?_eq_getElem (show 2 < xs.length by rw [hxl]; decide)] at h2
  obtain ⟨v2, K2, G2⟩ := (opens_int (k := .i64) Try.underlying3 (by kernel_rfl)).2 enc w base spare held n [c2] _ ((show DataW.trod enc Try.prog w base spare held n 3 [c2] = _ from (by first | exact h2 | (rw [show Try.prog.cellsOf 3 = 1 by kernel_rfl] at h2; exact h2))))
  have h3 := hf 3 _ rfl
  rw [List.getElem?_eq_getElem (show 3 < xs.length by rw [hxl]; decide)] at h3
  obtain ⟨v3, K3, G3⟩ := opens_79.2 enc w base spare held n [c3, c4, c5, c6, c7] _ ((show DataW.trod enc Try.prog w base spare held n 79 [c3, c4, c5, c6, c7] = _ from (by first | exact h3 | (rw [show Try.prog.cellsOf 79 = 5 by kernel_rfl] at h3; exact h3))))
  have h4 := hf 4 _ rfl
  rw [List.getElem?_eq_getElem (show 4 < xs.length by rw [hxl]; decide)] at h4
  obtain ⟨v4, K4, G4⟩ := opens_81.2 enc w base spare held n [c8, c9, c10, c11, c12] _ ((show DataW.trod enc Try.prog w base spare held n 81 [c8, c9, c10, c11, c12] = _ from (by first | exact h4 | (rw [show Try.prog.cellsOf 81 = 5 by kernel_rfl] at h4; exact h4))))
  exact ⟨⟨v0, v1, v2, v3, v4⟩, ⟨[c0], [c1, c2, c3, c4, c5, c6, c7, c8, c9, c10, c11, c12], rfl, K0, ⟨[c1], [c2, c3, c4, c5, c6, c7, c8, c9, c10, c11, c12], rfl, K1, ⟨[c2], [c3, c4, c5, c6, c7, c8, c9, c10, c11, c12], rfl, K2, ⟨[c3, c4, c5, c6, c7], [c8, c9, c10, c11, c12], rfl, K3, K4⟩⟩⟩⟩, ⟨G0, G1, G2, G3, G4⟩⟩
end Go.Proofs.Ytcpljigliklgcaa.Q
end

section
namespace Go.Proofs.Ytcpljigliklgcaa.Q
open Go.RowKit Go.Proofs.YtcpljigliklgcaaW.PrintWords Go.Proofs.YtcpljigliklgcaaW.PrintLast Go.Proofs.YtcpljigliklgcaaW.PrintMore
attribute [local go_sem] max2_int min2_int max_two min_two max_three min_three max_four min_four   -- for this text's walks alone
set_option linter.unusedVariables false
set_option linter.unusedSimpArgs false
attribute [local go_sem] bin_leq bin_gtr bin_geq
def laws_FnExactSameMoment.Pure : Prop := ∀ (a0_0 : Int) (a0_1 : Int) (a0_2 : Int) (a0_3 : Int) (a0_4 : Int) (a0_5 : ByteArray) (a0_6 : ByteArray) (l0_7 : List (S142)) (a0_8 : Int) (a0_9 : Int) (a0_10 : Int) (l0_11 : List ByteArray) (l0_12 : List (S125)) (a1_0 : Int) (a1_1 : Int) (a1_2 : Int) (a1_3 : Int) (a1_4 : Int) (a1_5 : ByteArray) (a1_6 : ByteArray) (l1_7 : List (S142)) (a1_8 : Int) (a1_9 : Int) (a1_10 : Int) (l1_11 : List ByteArray) (l1_12 : List (S125)), good83 (⟨a0_0, a0_1, a0_2, (⟨a0_3, a0_4, a0_5, a0_6, l0_7⟩ : S79), (⟨a0_8, a0_9, a0_10, l0_11, l0_12⟩ : S81)⟩ : S83) → good83 (⟨a1_0, a1_1, a1_2, (⟨a1_3, a1_4, a1_5, a1_6, l1_7⟩ : S79), (⟨a1_8, a1_9, a1_10, l1_11, l1_12⟩ : S81)⟩ : S83) → ∃ k, laws_FnExactSameMoment.f k a0_0 a0_1 a0_2 a0_3 a0_4 a0_5 a0_6 l0_7 a0_8 a0_9 a0_10 l0_11 l0_12 a1_0 a1_1 a1_2 a1_3 a1_4 a1_5 a1_6 l1_7 a1_8 a1_9 a1_10 l1_11 l1_12 = some true
theorem laws_FnExactSameMoment.walk (P : laws_FnExactSameMoment.Pure) (a0_0 : Int) (a0_1 : Int) (a0_2 : Int) (a0_3 : Int) (a0_4 : Int) (a0_5 : ByteArray) (a0_6 : ByteArray) (A0_7 : Option Addr) (c0_7 : Nat) (l0_7 : List (S142)) (a0_8 : Int) (a0_9 : Int) (a0_10 : Int) (A0_11 : Option Addr) (c0_11 : Nat) (l0_11 : List ByteArray) (A0_12 : Option Addr) (c0_12 : Nat) (l0_12 : List (S125)) (a1_0 : Int) (a1_1 : Int) (a1_2 : Int) (a1_3 : Int) (a1_4 : Int) (a1_5 : ByteArray) (a1_6 : ByteArray) (A1_7 : Option Addr) (c1_7 : Nat) (l1_7 : List (S142)) (a1_8 : Int) (a1_9 : Int) (a1_10 : Int) (A1_11 : Option Addr) (c1_11 : Nat) (l1_11 : List ByteArray) (A1_12 : Option Addr) (c1_12 : Nat) (l1_12 : List (S125)) (w : World) (w0 : good83 (⟨a0_0, a0_1, a0_2, (⟨a0_3, a0_4, a0_5, a0_6, l0_7⟩ : S79), (⟨a0_8, a0_9, a0_10, l0_11, l0_12⟩ : S81)⟩ : S83)) (w1 : good83 (⟨a1_0, a1_1, a1_2, (⟨a1_3, a1_4, a1_5, a1_6, l1_7⟩ : S79), (⟨a1_8, a1_9, a1_10, l1_11, l1_12⟩ : S81)⟩ : S83)) (hr0_7 : Kd.C k142 w A0_7 l0_7.length l0_7) (hc0_7 : l0_7.length ≤ c0_7) (hr0_11 : Kd.C Kd.string w A0_11 l0_11.length l0_11) (hc0_11 : l0_11.length ≤ c0_11) (hr0_12 : Kd.C k125 w A0_12 l0_12.length l0_12) (hc0_12 : l0_12.length ≤ c0_12) (hr1_7 : Kd.C k142 w A1_7 l1_7.length l1_7) (hc1_7 : l1_7.length ≤ c1_7) (hr1_11 : Kd.C Kd.string w A1_11 l1_11.length l1_11) (hc1_11 : l1_11.length ≤ c1_11) (hr1_12 : Kd.C k125 w A1_12 l1_12.length l1_12) (hc1_12 : l1_12.length ≤ c1_12) :
    Calls Try.prog 11 #[.agg #[.int .i64 a0_0, .int .i64 a0_1, .int .i64 a0_2, .int .i64 a0_3, .int .i64 a0_4, .string a0_5, .string a0_6, .slice A0_7 l0_7.length c0_7, .int .i64 a0_8, .int .i64 a0_9, .int .i64 a0_10, .slice A0_11 l0_11.length c0_11, .slice A0_12 l0_12.length c0_12], .agg #[.int .i64 a1_0, .int .i64 a1_1, .int .i64 a1_2, .int .i64 a1_3, .int .i64 a1_4, .string a1_5, .string a1_6, .slice A1_7 l1_7.length c1_7, .int .i64 a1_8, .int .i64 a1_9, .int .i64 a1_10, .slice A1_11 l1_11.length c1_11, .slice A1_12 l1_12.length c1_12]] w fun e w' => e = .returned (.bool true) ∧ Below w.heap.size w w' := by
  obtain ⟨k, hk⟩ := P a0_0 a0_1 a0_2 a0_3 a0_4 a0_5 a0_6 l0_7 a0_8 a0_9 a0_10 l0_11 l0_12 a1_0 a1_1 a1_2 a1_3 a1_4 a1_5 a1_6 l1_7 a1_8 a1_9 a1_10 l1_11 l1_12 w0 w1
  exact (laws_FnExactSameMoment.calls k a0_0 a0_1 a0_2 a0_3 a0_4 a0_5 a0_6 A0_7 c0_7 l0_7 a0_8 a0_9 a0_10 A0_11 c0_11 l0_11 A0_12 c0_12 l0_12 a1_0 a1_1 a1_2 a1_3 a1_4 a1_5 a1_6 A1_7 c1_7 l1_7 a1_8 a1_9 a1_10 A1_11 c1_11 l1_11 A1_12 c1_12 l1_12 w hr0_7 hc0_7 hr0_11 hc0_11 hr0_12 hc0_12 hr1_7 hc1_7 hr1_11 hc1_11 hr1_12 hc1_12 hk).mono fun e w' h => ⟨h.1, h.2⟩
end Go.Proofs.Ytcpljigliklgcaa.Q
end

section
namespace Go.Proofs.Ytcpljigliklgcaa.Q
open Go.RowKit Go.Proofs.YtcpljigliklgcaaW.PrintWords Go.Proofs.YtcpljigliklgcaaW.PrintLast
theorem isValue_f (n : Int) : impl_isValue.f n = some (inB n (-1000000) 1000000) := by
  unfold impl_isValue.f impl_within.f inB
  by_cases h : (-1000000 : Int) ≤ n <;> simp [h]
theorem mapOK_l0 (l : List S51) (hlen : l.length ≤ 4611686018427387904) (d : Nat) : ∀ i : Nat, i + d = l.length → (∀ j, j < i → entAt l j = true) → Ev (fun k => impl_MapOK.l0 k l l (l.length : Int) (i : Int)) (mapB l) := by
  induction d with
  | zero =>
    intro i hi hp
    have e : mapB l = decide ((l.length : Int) ≤ 12) := by
      unfold mapB
      rw [allR_true (fun j hj => hp j (by omega)), Bool.and_true]
      by_cases h : l.length ≤ 12
      · rw [decide_eq_true h, decide_eq_true (by omega)]
      · rw [decide_eq_false h, decide_eq_false (by omega)]
    rw [e]
    exact Ev.step (f := fun _ => some (decide ((l.length : Int) ≤ 12))) (fun k => by simp only [impl_MapOK.l0]; rw [if_neg (by omega)]) (Ev.now _)
  | succ d ih =>
    intro i hi hp
    have hw : wrap64 ((i : Int) + 1) = ((i + 1 : Nat) : Int) := by unfold wrap64; omega
    have hbad : entAt l i = false → mapB l = false := fun h => by
      unfold mapB
      rw [allR_false (j := i) (by omega) h, Bool.and_false]
    have hgo : entAt l i = true → Ev (fun k => impl_MapOK.l0 k l l (l.length : Int) ((i + 1 : Nat) : Int)) (mapB l) := fun h => ih (i + 1) (by omega) (fun j hj => by
      by_cases e : j = i
      · rw [e]; exact h
      · exact hp j (by omega))
    have E : entAt l i = (nameB (rd_T51 l (i : Int)).f0 && inB (rd_T51 l (i : Int)).f1 (-1000000) 1000000 && (i == 0 || sblt (rd_T51 l ((i : Int) - 1)).f0 (rd_T51 l (i : Int)).f0)) := rfl
    have c1 : (i : Int) < (l.length : Int) := by omega
    have c2 : (0 : Int) ≤ (i : Int) := by omega
    cases hN : nameB (rd_T51 l (i : Int)).f0 with
    | false =>
      rw [hbad (by rw [E, hN]; rfl)]
      refine Ev.step (f := fun _ => some false) (fun k => ?_) (Ev.now _)
      simp only [impl_MapOK.l0, impl_NameOK.f, hN, if_pos c1, if_pos c2, Option.bind_some, Bool.false_eq_true, if_false]
    | true =>
      cases hV : inB (rd_T51 l (i : Int)).f1 (-1000000) 1000000 with
      | false =>
        rw [hbad (by rw [E, hN, hV]; rfl)]
        refine Ev.step (f := fun _ => some false) (fun k => ?_) (Ev.now _)
        simp only [impl_MapOK.l0, impl_NameOK.f, isValue_f, hN, hV, if_pos c1, if_pos c2, Option.bind_some, Bool.false_eq_true, if_false, if_true]
      | true =>
        by_cases hz : i = 0
        · have hg := hgo (by rw [E, hN, hV]; simp [hz])
          refine Ev.step (fun k => ?_) hg
          have c3 : ¬ ((i : Int) > 0) := by omega
          simp only [impl_MapOK.l0, impl_NameOK.f, isValue_f, hN, hV, if_pos c1, if_pos c2, if_neg c3, Option.bind_some, if_true, hw]
        · have c3 : (i : Int) > 0 := by omega
          have hw2 : wrap64 ((i : Int) - 1) = (i : Int) - 1 := by unfold wrap64; omega
          have c4 : (0 : Int) ≤ (i : Int) - 1 := by omega
          have c5 : (i : Int) - 1 < (l.length : Int) := by omega
          have z : (i == 0) = false := by simp [hz]
          cases hS : sblt (rd_T51 l ((i : Int) - 1)).f0 (rd_T51 l (i : Int)).f0 with
          | false =>
            rw [hbad (by rw [E, hN, hV, hS, z]; rfl)]
            have hS1 : Op.bytesLess (rd_T51 l ((i : Int) - 1)).f0.toList (rd_T51 l (i : Int)).f0.toList = false := hS
            refine Ev.step (f := fun _ => some false) (fun k => ?_) (Ev.now _)
            simp only [impl_MapOK.l0, impl_NameOK.f, isValue_f, hN, hV, hS1, hw2, if_pos c1, if_pos c2, if_pos c3, if_pos c4, if_pos c5, Option.bind_some, if_true, Bool.false_eq_true, if_false]
          | true =>
            have hg := hgo (by rw [E, hN, hV, hS]; simp)
            have hS1 : Op.bytesLess (rd_T51 l ((i : Int) - 1)).f0.toList (rd_T51 l (i : Int)).f0.toList = true := hS
            refine Ev.step (fun k => ?_) hg
            simp only [impl_MapOK.l0, impl_NameOK.f, isValue_f, hN, hV, hS1, hw2, if_pos c1, if_pos c2, if_pos c3, if_pos c4, if_pos c5, Option.bind_some, if_true, hw]
theorem mapOK_ev (l : List S51) (hlen : l.length ≤ 4611686018427387904) : Ev (fun k => impl_MapOK.f k l) (mapB l) := mapOK_l0 l hlen l.length 0 (by omega) (fun j hj => absurd hj (Nat.not_lt_zero _))
end Go.Proofs.Ytcpljigliklgcaa.Q
end

section
namespace Go.Proofs.Ytcpljigliklgcaa.Q
open Go.RowKit Go.Proofs.YtcpljigliklgcaaW.PrintWords Go.Proofs.YtcpljigliklgcaaW.PrintLast Go.Proofs.YtcpljigliklgcaaW.PrintMore
attribute [local go_sem] max2_int min2_int max_two min_two max_three min_three max_four min_four   -- for this text's walks alone
set_option linter.unusedVariables false
set_option linter.unusedSimpArgs false
attribute [local go_sem] bin_leq bin_gtr bin_geq
theorem ev_map_loop {α β : Type} {L : Nat → List α → List β → Int → Option (List β)} {g : Nat → α → Option β} {cv : α → β} {z : α}
    (step : ∀ k xs acc i, L (k + 1) xs acc i = if i < (xs.length : Int) then (if 0 ≤ i then ((g k (xs.getD i.toNat z)).bind fun y => (if i < (acc.length : Int) then (L k xs (acc.set i.toNat y) (wrap64 (i + 1))) else none)) else none) else some acc)
    (xs : List α) (hlen : xs.length ≤ 4611686018427387904) (hg : ∀ x, x ∈ xs → Ev (fun k => g k x) (cv x)) (acc : List β) (ha : acc.length = xs.length) : Ev (fun k => L k xs acc 0) (xs.map cv) := by
  have key : ∀ d (i : Nat) (acc : List β), i + d = xs.length → acc.length = xs.length → Ev (fun k => L k xs acc (i : Int)) (acc.take i ++ (xs.drop i).map cv) := by
    intro d
    induction d with
    | zero =>
      intro i acc hi ha
      refine Ev.step (f := fun _ => some acc) (fun k => by rw [step, if_neg (by omega)]) ?_
      rw [List.take_of_length_le (by omega), List.drop_eq_nil_of_le (by omega)]
      simpa using Ev.now acc
    | succ d ih =>
      intro i acc hi ha
      have hl : i < xs.length := by omega
      have hw : wrap64 ((i : Int) + 1) = ((i + 1 : Nat) : Int) := by unfold wrap64; omega
      have hx : xs.getD ((i : Int).toNat) z = xs[i] := by simp [List.getD_eq_getElem?_getD, List.getElem?_eq_getElem hl]
      refine Ev.step (f := fun k => (g k xs[i]).bind fun y => L k xs (acc.set i y) ((i + 1 : Nat) : Int)) (fun k => ?_) ?_
      · rw [step, if_pos (by omega), if_pos (by omega), hx, hw]
        congr 1
        funext y
        rw [if_pos (by omega)]
        simp
      · have h2 := ih (i + 1) (acc.set i (cv xs[i])) (by omega) (by simpa using ha)
        have e : (acc.set i (cv xs[i])).take (i + 1) ++ (xs.drop (i + 1)).map cv = acc.take i ++ (xs.drop i).map cv := by
          rw [List.drop_eq_getElem_cons hl, List.map_cons, List.take_succ_eq_append_getElem (by simpa using (show i < acc.length by omega)), List.take_set_of_le (by omega)]
          simp
        rw [e] at h2
        exact Ev.bind (hg _ (List.getElem_mem hl)) h2
  have h := key xs.length 0 acc (by omega) ha
  simpa using h
theorem ev_refl_loop {α : Type} {L : Nat → List α → List α → Int → Option Bool} {g : Nat → α → α → Option Bool} {z : α}
    (step : ∀ k xs ys i, L (k + 1) xs ys i = if i < (xs.length : Int) then (if 0 ≤ i then (if i < (ys.length : Int) then ((g k (xs.getD i.toNat z) (ys.getD i.toNat z)).bind fun t => (if t = true then L k xs ys (wrap64 (i + 1)) else some false)) else none) else none) else some true)
    (xs : List α) (hlen : xs.length ≤ 4611686018427387904) (hg : ∀ x, x ∈ xs → Ev (fun k => g k x x) true) : Ev (fun k => L k xs xs 0) true := by
  have key : ∀ d (i : Nat), i + d = xs.length → Ev (fun k => L k xs xs (i : Int)) true := by
    intro d
    induction d with
    | zero =>
      intro i hi
      exact Ev.step (f := fun _ => some true) (fun k => by rw [step, if_neg (by omega)]) (Ev.now true)
    | succ d ih =>
      intro i hi
      have hl : i < xs.length := by omega
      have hw : wrap64 ((i : Int) + 1) = ((i + 1 : Nat) : Int) := by unfold wrap64; omega
      have hx : xs.getD ((i : Int).toNat) z = xs[i] := by simp [List.getD_eq_getElem?_getD, List.getElem?_eq_getElem hl]
      refine Ev.step (f := fun k => (g k xs[i] xs[i]).bind fun t => if t = true then L k xs xs ((i + 1 : Nat) : Int) else some false) (fun k => ?_) ?_
      · rw [step, if_pos (by omega), if_pos (by omega), if_pos (by omega), hx, hw]
      · refine Ev.bind (hg _ (List.getElem_mem hl)) ?_
        simp only [if_true]
        exact ih (i + 1) (by omega)
  exact key xs.length 0 (by omega)
theorem ev_sz_loop {α : Type} {L : Nat → List α → Int → Int → Option Int} {g : Nat → α → Int → Option Int} {z : α}
    (step : ∀ k xs left i, L (k + 1) xs left i = if i < (xs.length : Int) then (if 0 ≤ i then ((g k (xs.getD i.toNat z) left).bind fun t => (if t < 0 then some (-1) else L k xs t (wrap64 (i + 1)))) else none) else some left)
    (xs : List α) (hlen : xs.length ≤ 4611686018427387904) (hg : ∀ x, x ∈ xs → ∀ left : Int, 0 ≤ left → left ≤ 1048576 → ∃ r, Ev (fun k => g k x left) r ∧ r ≤ left) (left : Int) (h0 : 0 ≤ left) (h1 : left ≤ 1048576) :
    ∃ r, Ev (fun k => L k xs left 0) r ∧ r ≤ left := by
  have key : ∀ d (i : Nat) (left : Int), i + d = xs.length → 0 ≤ left → left ≤ 1048576 → ∃ r, Ev (fun k => L k xs left (i : Int)) r ∧ r ≤ left := by
    intro d
    induction d with
    | zero =>
      intro i left hi h0 h1
      exact ⟨left, Ev.step (f := fun _ => some left) (fun k => by rw [step, if_neg (by omega)]) (Ev.now left), by omega⟩
    | succ d ih =>
      intro i left hi h0 h1
      have hl : i < xs.length := by omega
      have hw : wrap64 ((i : Int) + 1) = ((i + 1 : Nat) : Int) := by unfold wrap64; omega
      have hx : xs.getD ((i : Int).toNat) z = xs[i] := by simp [List.getD_eq_getElem?_getD, List.getElem?_eq_getElem hl]
      obtain ⟨t, ht, htl⟩ := hg _ (List.getElem_mem hl) left h0 h1
      by_cases hn : t < 0
      · refine ⟨-1, Ev.step (f := fun k => (g k xs[i] left).bind fun t => if t < 0 then some (-1) else L k xs t ((i + 1 : Nat) : Int)) (fun k => ?_) (Ev.bind ht ?_), by omega⟩
        · rw [step, if_pos (by omega), if_pos (by omega), hx, hw]
        · simp only [hn, if_true]
          exact Ev.now _
      · obtain ⟨r, hr, hrl⟩ := ih (i + 1) t (by omega) (by omega) (by omega)
        refine ⟨r, Ev.step (f := fun k => (g k xs[i] left).bind fun t => if t < 0 then some (-1) else L k xs t ((i + 1 : Nat) : Int)) (fun k => ?_) (Ev.bind ht ?_), by omega⟩
        · rw [step, if_pos (by omega), if_pos (by omega), hx, hw]
        · simp only [hn, if_false]
          exact hr
  exact key xs.length 0 left (by omega) h0 h1
end Go.Proofs.Ytcpljigliklgcaa.Q
end

section
namespace Go.Proofs.Ytcpljigliklgcaa.Q
open Go.RowKit Go.Proofs.YtcpljigliklgcaaW.PrintWords Go.Proofs.YtcpljigliklgcaaW.PrintLast
set_option linter.unusedVariables false
theorem Ev.shift {α : Type} {g h : Nat → Option α} {r : α} {c d : Nat} (e : ∀ k, g (k + c) = h (k + d)) (k : Ev h r) : Ev g r := by
  obtain ⟨K, hK⟩ := k
  refine ⟨K + c, fun n hn => ?_⟩
  obtain ⟨m, rfl⟩ : ∃ m, n = m + c := ⟨n - c, by omega⟩
  rw [e]
  exact hK _ (by omega)
theorem Ev.at_ {α : Type} {g : Nat → Option α} {r : α} {c : Nat} (e : ∀ k, g (k + c) = some r) : Ev g r := by
  refine ⟨c, fun n hn => ?_⟩
  obtain ⟨m, rfl⟩ : ∃ m, n = m + c := ⟨n - c, by omega⟩
  exact e m
theorem ev_all_loop {L : Nat → Int → Option Bool} {n : Nat} {p : Nat → Bool} {fin : Bool}
    (step : ∀ i : Nat, i < n → (∀ j, j < i → p j = true) → p i = true → ∃ c d, ∀ k, L (k + c) (i : Int) = L (k + d) ((i + 1 : Nat) : Int))
    (stop : ∀ i : Nat, i < n → (∀ j, j < i → p j = true) → p i = false → ∃ c, ∀ k, L (k + c) (i : Int) = some false)
    (done : Ev (fun k => L k (n : Int)) fin) : Ev (fun k => L k 0) (allR p n && fin) := by
  have key : ∀ d (i : Nat), i + d = n → (∀ j, j < i → p j = true) → Ev (fun k => L k (i : Int)) (allR p n && fin) := by
    intro d
    induction d with
    | zero =>
      intro i hi hp
      obtain rfl : i = n := by omega
      rw [allR_true hp, Bool.true_and]
      exact done
    | succ d ih =>
      intro i hi hp
      cases h : p i with
      | true =>
        obtain ⟨c, d', e⟩ := step i (by omega) hp h
        refine Ev.shift e (ih (i + 1) (by omega) (fun j hj => ?_))
        rcases Nat.lt_or_eq_of_le (Nat.le_of_lt_succ hj) with h1 | h1
        · exact hp j h1
        · rw [h1]; exact h
      | false =>
        obtain ⟨c, e⟩ := stop i (by omega) hp h
        rw [allR_false (by omega) h, Bool.false_and]
        exact Ev.at_ e
  exact key n 0 (by omega) (fun j hj => absurd hj (Nat.not_lt_zero _))
theorem ev_same_loop {α : Type} {L : Nat → Int → Option Bool} {xs ys : List α} (hl : xs.length = ys.length)
    (step : ∀ (i : Nat) (h1 : i < xs.length) (h2 : i < ys.length), xs[i] = ys[i] → ∀ k, L (k + 1) (i : Int) = L k ((i + 1 : Nat) : Int))
    (stop : ∀ (i : Nat) (h1 : i < xs.length) (h2 : i < ys.length), xs[i] ≠ ys[i] → ∀ k, L (k + 1) (i : Int) = some false)
    (done : ∀ k, L (k + 1) (xs.length : Int) = some true) : ∃ b, Ev (fun k => L k 0) b ∧ (b = true ↔ xs = ys) := by
  have key : ∀ d (i : Nat), i + d = xs.length → xs.take i = ys.take i → ∃ b, Ev (fun k => L k (i : Int)) b ∧ (b = true ↔ xs = ys) := by
    intro d
    induction d with
    | zero =>
      intro i hi hp
      obtain rfl : i = xs.length := by omega
      refine ⟨true, Ev.at_ (c := 1) done, fun _ => ?_, fun _ => rfl⟩
      rw [List.take_length, hl, List.take_length] at hp
      exact hp
    | succ d ih =>
      intro i hi hp
      have h1 : i < xs.length := by omega
      have h2 : i < ys.length := by omega
      rcases Classical.em (xs[i] = ys[i]) with h | h
      · obtain ⟨b, hb, hb2⟩ := ih (i + 1) (by omega) (by rw [List.take_succ_eq_append_getElem h1, List.take_succ_eq_append_getElem h2, hp, h])
        exact ⟨b, Ev.step (step i h1 h2 h) hb, hb2⟩
      · refine ⟨false, Ev.at_ (c := 1) (stop i h1 h2 h), by simp, fun e => absurd (by subst e; rfl) h⟩
  exact key xs.length 0 (by omega) (by simp)
theorem bool_eq_of_iff {a b : Bool} {P : Prop} (h : a = true ↔ P) (k : b = true ↔ P) : a = b := by
  rw [Bool.eq_iff_iff, h, k]
theorem Ev.many {α : Type} {f : Nat → Option α} {r : α} (h : Ev f r) : ∃ K, ∀ m, K ≤ m → f m = some r ∧ f (m + 1) = some r ∧ f (m + 2) = some r ∧ f (m + 3) = some r ∧ f (m + 4) = some r := by
  obtain ⟨K, h⟩ := h
  exact ⟨K, fun m hm => ⟨h m hm, h _ (by omega), h _ (by omega), h _ (by omega), h _ (by omega)⟩⟩
theorem Ev.from_ {α : Type} {g : Nat → Option α} {r : α} (K c : Nat) (h : ∀ m, K ≤ m → g (m + c) = some r) : Ev g r := by
  refine ⟨K + c, fun n hn => ?_⟩
  obtain ⟨m, rfl⟩ : ∃ m, n = m + c := ⟨n - c, by omega⟩
  exact h m (by omega)
theorem wrap_i {i : Nat} (h : i < 4611686018427387904) : wrap64 ((i : Int) + 1) = ((i + 1 : Nat) : Int) := by unfold wrap64; omega
theorem wrap_1 {i : Int} (h0 : 0 ≤ i) (h : i < 4611686018427387904) : wrap64 (i - 1) = i - 1 := by unfold wrap64; omega
end Go.Proofs.Ytcpljigliklgcaa.Q
end

section
namespace Go.Proofs.Ytcpljigliklgcaa.Q
open Go.RowKit Go.Proofs.YtcpljigliklgcaaW.PrintWords Go.Proofs.YtcpljigliklgcaaW.PrintLast
set_option linter.unusedVariables false
set_option linter.unusedSimpArgs false
theorem rdEntry {l : List S51} {i : Nat} (h : i < l.length) : rd_T51 l (i : Int) = l[i] := by
  simp [rd_T51, List.getD_eq_getElem?_getD, List.getElem?_eq_getElem h]
theorem neEntry (x y : S51) : ((!(x.f0.toList == y.f0.toList) || !(x.f1 == y.f1)) = true) ↔ x ≠ y := by
  constructor
  · rintro h rfl
    simp at h
  · intro h
    cases h1 : (!(x.f0.toList == y.f0.toList) || !(x.f1 == y.f1)) with
    | true => rfl
    | false =>
      simp only [Bool.or_eq_false_iff, Bool.not_eq_false', beq_iff_eq] at h1
      exfalso
      apply h
      cases x; cases y
      simp only at h1
      obtain ⟨h2, h3⟩ := h1
      rw [toList_inj h2, h3]
theorem sameMapS_ev (a b : List S51) (ha : a.length ≤ 1048576) : ∃ r, Ev (fun k => spec_l01Same.f k a b) r ∧ (r = true ↔ a = b) := by
  by_cases hl : a.length = b.length
  · have c : (a.length : Int) = (b.length : Int) := by omega
    obtain ⟨r, hr, h⟩ := ev_same_loop (L := fun k i => spec_l01Same.l0 k a b i) hl (fun i h1 h2 e k => by
      have c1 : (i : Int) < (a.length : Int) := by omega
      have c2 : (i : Int) < (b.length : Int) := by omega
      have e2 : ¬ ((!(a[i].f0.toList == b[i].f0.toList) || !(a[i].f1 == b[i].f1)) = true) := fun h => (neEntry _ _).mp h e
      simp only [spec_l01Same.l0, rdEntry h1, rdEntry h2, c1, c2, Int.natCast_nonneg, if_true, e2, Bool.false_eq_true, if_false, wrap_i (show i < 4611686018427387904 by omega)]) (fun i h1 h2 e k => by
      have c1 : (i : Int) < (a.length : Int) := by omega
      have c2 : (i : Int) < (b.length : Int) := by omega
      have e2 := (neEntry _ _).mpr e
      simp only [spec_l01Same.l0, rdEntry h1, rdEntry h2, c1, c2, Int.natCast_nonneg, if_true, e2]) (fun k => by
      simp only [spec_l01Same.l0]
      rw [if_neg (by omega)])
    exact ⟨r, Ev.congr (f := fun k => spec_l01Same.l0 k a b 0) (fun k => by unfold spec_l01Same.f; rw [if_pos c]) hr, h⟩
  · refine ⟨false, Ev.congr (f := fun _ => some false) (fun k => by unfold spec_l01Same.f; rw [if_neg (by omega)]) (Ev.now _), by simp, fun e => absurd (by rw [e]) hl⟩
theorem equalMap_ev (a b : List S51) (ha : a.length ≤ 1048576) : ∃ r, Ev (fun k => impl_Entry_109.f k a b) r ∧ (r = true ↔ a = b) := by
  by_cases hl : a.length = b.length
  · have c : (a.length : Int) = (b.length : Int) := by omega
    obtain ⟨r, hr, h⟩ := ev_same_loop (L := fun k i => impl_Entry_109.l0 k a b (a.length : Int) i) hl (fun i h1 h2 e k => by
      have c1 : (i : Int) < (a.length : Int) := by omega
      have c2 : (i : Int) < (b.length : Int) := by omega
      have e2 : ¬ ((!(a[i].f0.toList == b[i].f0.toList) || !(a[i].f1 == b[i].f1)) = true) := fun h => (neEntry _ _).mp h e
      simp only [impl_Entry_109.l0, rdEntry h1, rdEntry h2, c1, c2, Int.natCast_nonneg, if_true, e2, Bool.false_eq_true, if_false, wrap_i (show i < 4611686018427387904 by omega)]) (fun i h1 h2 e k => by
      have c1 : (i : Int) < (a.length : Int) := by omega
      have c2 : (i : Int) < (b.length : Int) := by omega
      have e2 := (neEntry _ _).mpr e
      simp only [impl_Entry_109.l0, rdEntry h1, rdEntry h2, c1, c2, Int.natCast_nonneg, if_true, e2]) (fun k => by
      simp only [impl_Entry_109.l0]
      rw [if_neg (by omega)])
    exact ⟨r, Ev.congr (f := fun k => impl_Entry_109.l0 k a b (a.length : Int) 0) (fun k => by unfold impl_Entry_109.f; rw [if_pos c]) hr, h⟩
  · refine ⟨false, Ev.congr (f := fun _ => some false) (fun k => by unfold impl_Entry_109.f; rw [if_neg (by omega)]) (Ev.now _), by simp, fun e => absurd (by rw [e]) hl⟩
end Go.Proofs.Ytcpljigliklgcaa.Q
end

section
namespace Go.Proofs.Ytcpljigliklgcaa.Q
open Go.RowKit Go.Proofs.YtcpljigliklgcaaW.PrintWords Go.Proofs.YtcpljigliklgcaaW.PrintLast
set_option linter.unusedVariables false
def cvEntry (x : S125) : S51 := ⟨x.f0, x.f1⟩
theorem toEntryS_ev (l : List S125) (h : l.length ≤ 1048576) : Ev (fun k => laws_toEntryS.f k l) (l.map cvEntry) := by
  refine Ev.congr (f := fun k => laws_toEntryS.l0 k l (List.replicate l.length z51) 0) (fun k => ?_) ?_
  · unfold laws_toEntryS.f
    rw [if_pos (by omega), if_pos (by omega)]
    rfl
  · exact ev_map_loop (L := laws_toEntryS.l0) (g := fun _ x => some (cvEntry x)) (z := z125) (fun _ _ _ _ => rfl) l (by omega) (fun x _ => Ev.now _) _ (by simp)
theorem eqEntry_refl (x : S51) : laws_eqEntry.f x.f0 x.f1 x.f0 x.f1 = some true := by
  unfold laws_eqEntry.f
  simp
theorem eqEntryS_ev (l : List S51) (h : l.length ≤ 1048576) : Ev (fun k => laws_eqEntryS.f k l l) true := by
  refine Ev.congr (f := fun k => laws_eqEntryS.l0 k l l 0) (fun k => ?_) ?_
  · unfold laws_eqEntryS.f
    rw [if_pos rfl]
  · exact ev_refl_loop (L := laws_eqEntryS.l0) (g := fun _ x y => laws_eqEntry.f x.f0 x.f1 y.f0 y.f1) (z := z51) (fun _ _ _ _ => rfl) l (by omega) (fun x _ => Ev.congr (fun _ => eqEntry_refl x) (Ev.now _))
theorem szEntryS_ev (l : List S125) (hl : l.length ≤ 9223372036854775807) (hg : ∀ x, x ∈ l → good125 x) (left : Int) (h0 : 0 ≤ left) (h1 : left ≤ 1048576) :
    ∃ r, Ev (fun k => laws_szEntryS.f k l left) r ∧ r ≤ left ∧ (0 ≤ r → l.length ≤ 1048576) := by
  have hw : wrap64 (left - (l.length : Int)) = left - (l.length : Int) := by unfold wrap64; omega
  by_cases hn : left - (l.length : Int) < 0
  · refine ⟨-1, Ev.congr (f := fun _ => some (-1)) (fun k => ?_) (Ev.now _), by omega, by omega⟩
    unfold laws_szEntryS.f
    rw [hw, if_pos hn]
  · obtain ⟨r, hr, hrl⟩ := ev_sz_loop (L := laws_szEntryS.l0) (g := fun _ x left => laws_szEntry.f x.f0 x.f1 left) (z := z125) (fun _ _ _ _ => rfl) l (by omega) (fun x hx left h0 h1 => by
      have hsz : x.f0.size ≤ 9223372036854775807 := (hg x hx).1
      have hw2 : wrap64 (left - (x.f0.size : Int)) = left - (x.f0.size : Int) := by unfold wrap64; omega
      by_cases h2 : left - (x.f0.size : Int) < 0
      · refine ⟨-1, Ev.congr (f := fun _ => some (-1)) (fun k => ?_) (Ev.now _), by omega⟩
        unfold laws_szEntry.f
        rw [hw2, if_pos h2]
      · refine ⟨left - (x.f0.size : Int), Ev.congr (f := fun _ => some (left - (x.f0.size : Int))) (fun k => ?_) (Ev.now _), by omega⟩
        unfold laws_szEntry.f
        rw [hw2, if_neg h2]) (left - (l.length : Int)) (by omega) (by omega)
    refine ⟨r, Ev.congr (f := fun k => laws_szEntryS.l0 k l (left - (l.length : Int)) 0) (fun k => ?_) hr, by omega, by omega⟩
    unfold laws_szEntryS.f
    rw [hw, if_neg hn]
end Go.Proofs.Ytcpljigliklgcaa.Q
end

section
namespace Go.Proofs.Ytcpljigliklgcaa.Q
open Go.RowKit Go.Proofs.YtcpljigliklgcaaW.PrintWords Go.Proofs.YtcpljigliklgcaaW.PrintLast
set_option linter.unusedVariables false
set_option linter.unusedSimpArgs false
theorem rdStr {l : List ByteArray} {i : Nat} (h : i < l.length) : rdOf ByteArray.empty l (i : Int) = l[i] := by
  simp [rdOf, List.getD_eq_getElem?_getD, List.getElem?_eq_getElem h]
theorem eqStringS_ev (l : List ByteArray) (hl : l.length ≤ 1048576) : Ev (fun k => laws_eqStringS.f k l l) true := by
  obtain ⟨b, hb, h⟩ := ev_same_loop (L := fun k i => laws_eqStringS.l0 k l l i) (xs := l) (ys := l) rfl (fun i h1 h2 e k => by
    have c1 : (i : Int) < (l.length : Int) := by omega
    simp only [laws_eqStringS.l0, rdStr h1, c1, Int.natCast_nonneg, if_true, wrap_i (show i < 4611686018427387904 by omega)]) (fun i h1 h2 e k => absurd rfl e) (fun k => by
    simp only [laws_eqStringS.l0]
    rw [if_neg (by omega)])
  obtain rfl : b = true := h.mpr rfl
  exact Ev.congr (f := fun k => laws_eqStringS.l0 k l l 0) (fun k => by unfold laws_eqStringS.f; rw [if_pos rfl]) hb
end Go.Proofs.Ytcpljigliklgcaa.Q
end
