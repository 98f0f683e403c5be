/- Parts of the proof of the law FnExactReadSnap, joined into one text. -/
import Derived.Test.YtcpljigliklgcaaMFnExactReadSnap4
section
namespace Go.Proofs.Ytcpljigliklgcaa.Q
open Go.RowKit Go.Proofs.YtcpljigliklgcaaW.PrintWords Go.Proofs.YtcpljigliklgcaaW.PrintLast Go.Proofs.YtcpljigliklgcaaW.PrintMore
attribute [local go_sem] max2_int min2_int max_two min_two max_three min_three max_four min_four   -- for this text's walks alone
set_option linter.unusedVariables false
set_option linter.unusedSimpArgs false
attribute [local go_sem] bin_leq bin_gtr bin_geq
def laws_eqCommit.f (k : Nat) (l0_0 : List Int) (l0_1 : List (S51)) (l1_0 : List Int) (l1_1 : List (S51)) : Option (Bool) := (laws_eqIntS.f k l0_0 l1_0).bind fun t666 => (if t666 = true then ((laws_eqEntryS.f k l0_1 l1_1).bind fun t667 => (if t667 = true then (some true) else (some false))) else (some false))
set_option maxHeartbeats 8000000 in
set_option maxRecDepth 100000 in
theorem laws_eqCommit.calls (k : Nat) (A0_0 : Option Addr) (c0_0 : Nat) (l0_0 : List Int) (A0_1 : Option Addr) (c0_1 : Nat) (l0_1 : List (S51)) (A1_0 : Option Addr) (c1_0 : Nat) (l1_0 : List Int) (A1_1 : Option Addr) (c1_1 : Nat) (l1_1 : List (S51)) (r : Bool) (w : World) (hr0_0 : Kd.C (Kd.int .i64) w A0_0 l0_0.length l0_0) (hc0_0 : l0_0.length ≤ c0_0) (hr0_1 : Kd.C k51 w A0_1 l0_1.length l0_1) (hc0_1 : l0_1.length ≤ c0_1) (hr1_0 : Kd.C (Kd.int .i64) w A1_0 l1_0.length l1_0) (hc1_0 : l1_0.length ≤ c1_0) (hr1_1 : Kd.C k51 w A1_1 l1_1.length l1_1) (hc1_1 : l1_1.length ≤ c1_1) (h : laws_eqCommit.f k l0_0 l0_1 l1_0 l1_1 = some r) :
    Calls Try.prog 77 #[.agg #[.slice A0_0 l0_0.length c0_0, .slice A0_1 l0_1.length c0_1], .agg #[.slice A1_0 l1_0.length c1_0, .slice A1_1 l1_1.length c1_1]] w fun e w' => e = .returned (.bool r) ∧ Below w.heap.size w w' := by
  have hu118 := Try.underlying118
  have HR0_0 := Aside0.mk hr0_0
  have HC0_0 := Aside0.mk hc0_0
  clear hr0_0 hc0_0
  have HR0_1 := Aside0.mk hr0_1
  have HC0_1 := Aside0.mk hc0_1
  clear hr0_1 hc0_1
  have HR1_0 := Aside0.mk hr1_0
  have HC1_0 := Aside0.mk hc1_0
  clear hr1_0 hc1_0
  have HR1_1 := Aside0.mk hr1_1
  have HC1_1 := Aside0.mk hc1_1
  clear hr1_1 hc1_1
  have HB := Aside0.mk (Below.refl w.heap.size w)
  have H : ((laws_eqIntS.f k l0_0 l1_0).bind fun t666 => (if t666 = true then ((laws_eqEntryS.f k l0_1 l1_1).bind fun t667 => (if t667 = true then (some true) else (some false))) else (some false))) = some r := h
  clear h
  replace H := Option.bind_eq_some_iff.mp H
  obtain ⟨t666, A30, H⟩ := H
  replace H : (if t666 = true then ((laws_eqEntryS.f k l0_1 l1_1).bind fun t667 => (if t667 = true then (some true) else (some false))) else (some false)) = some r := H
  have A3 := Aside0.mk A30
  clear A30
  by_cases c4 : t666 = true
  · subst c4
    have H1 : ((laws_eqEntryS.f k l0_1 l1_1).bind fun t667 => (if t667 = true then (some true) else (some false))) = some r := by rw [if_pos rfl] at H; exact H
    clear H
    have H := H1
    clear H1
    replace H := Option.bind_eq_some_iff.mp H
    obtain ⟨t667, A50, H⟩ := H
    replace H : (if t667 = true then (some true) else (some false)) = some r := H
    have A5 := Aside0.mk A50
    clear A50
    by_cases c6 : t667 = true
    · subst c6
      have H1 : (some true) = some r := by rw [if_pos rfl] at H; exact H
      clear H
      have H := H1
      clear H1
      obtain rfl := Option.some.inj H
      go_enter Try.func77, Try.ntmps77
      go_wp2_with (first | ((with_reducible refine gate_dst (N := 2) rfl ?_); refine bE (N := 2) (cs := #[.slice A0_0 l0_0.length c0_0, .slice A0_1 l0_1.length c0_1]) (t := 118) ?_; intro gb664 hg w7 hbox hb; have n0_ := Aside0.mk (below_step (w := w) bW hb); have n1_ := Aside0.mk (hbox); have n2_ := Aside0.mk (gS (w := w) hg); have n3_ := n2_; clear HB; have HB := n0_; have BK664 := n1_; have GW664 := n2_; have GE664 := n3_; clear n0_ n1_ n2_ n3_; clear hb hbox hg) | ((with_reducible refine gate_dst (N := 3) rfl ?_); refine bE (N := 3) (cs := #[.slice A1_0 l1_0.length c1_0, .slice A1_1 l1_1.length c1_1]) (t := 118) ?_; intro gb665 hg w8 hbox hb; have n0_ := Aside0.mk (kb BK664 hb); have n1_ := Aside0.mk (below_step (w := w) bW hb); have n2_ := Aside0.mk (hbox); have n3_ := Aside0.mk (gS (w := w) hg); have n4_ := n3_; have n5_ := Aside0.mk (nL BK664 hg); have n6_ := Aside0.mk (nG BK664 hg); clear BK664; clear HB; have BK664 := n0_; have HB := n1_; have BK665 := n2_; have GW665 := n3_; have GE665 := n4_; have NB664_665 := n5_; have NB665_664 := n6_; clear n0_ n1_ n2_ n3_ n4_ n5_ n6_; clear hb hbox hg; have hnb9 := NB664_665.out; have hnc9 := NB665_664.out; obtain ⟨hcz10_0, hcz10_1⟩ := cz2 BK664; obtain ⟨hfz10_0, hfz10_1⟩ := fz2 BK664; obtain ⟨hcz11_0, hcz11_1⟩ := cz2 BK665; obtain ⟨hfz11_0, hfz11_1⟩ := fz2 BK665) | ((with_reducible refine gate_callee (f := 166) rfl ?_); refine goesL_ (some 9) rfl rfl Try.func166 (by kernel_rfl) rfl #[.slice A0_0 l0_0.length c0_0, .slice A1_0 l1_0.length c1_0] rfl gA ?_; (with_reducible refine (laws_eqIntS.calls k _ _ l0_0 _ _ l1_0 true _ ?side1 ?side2 ?side3 ?side4 A3.out).mono ?_); (case side1 => exact cB HR0_0); (case side2 => exact HC0_0.out); (case side3 => exact cB HR1_0); (case side4 => exact HC1_0.out); rintro e w' ⟨rfl, ⟨nd, rfl⟩⟩; refine ⟨_, rfl, ?_⟩) | ((with_reducible refine gate_callee (f := 19) rfl ?_); refine goesL_ (some 15) rfl rfl Try.func19 (by kernel_rfl) rfl #[.slice A0_1 l0_1.length c0_1, .slice A1_1 l1_1.length c1_1] rfl gA ?_; (with_reducible refine (laws_eqEntryS.calls k _ _ l0_1 _ _ l1_1 true _ ?side1 ?side2 ?side3 ?side4 A5.out).mono ?_); (case side1 => exact cB HR0_1); (case side2 => exact HC0_1.out); (case side3 => exact cB HR1_1); (case side4 => exact HC1_1.out); rintro e w12 ⟨rfl, hb⟩; refine ⟨_, rfl, ?_⟩; have n0_ := Aside0.mk (kb BK664 hb); have n1_ := Aside0.mk (kb BK665 hb); have n2_ := Aside0.mk (below_step (w := w) bW hb); clear BK664; clear BK665; clear HB; have BK664 := n0_; have BK665 := n1_; have HB := n2_; clear n0_ n1_ n2_; (try clear hb); (try clear hb2); (try clear hk); (try clear hi)))
      go_ret
      exact ⟨rE, bW⟩
    · replace c6 := Bool.eq_false_iff.mpr c6
      subst c6
      have H1 : (some false) = some r := by rw [if_neg (show ¬ (false = true) by decide)] at H; exact H
      clear H
      have H := H1
      clear H1
      obtain rfl := Option.some.inj H
      go_enter Try.func77, Try.ntmps77
      go_wp2_with (first | ((with_reducible refine gate_dst (N := 2) rfl ?_); refine bE (N := 2) (cs := #[.slice A0_0 l0_0.length c0_0, .slice A0_1 l0_1.length c0_1]) (t := 118) ?_; intro gb664 hg w13 hbox hb; have n0_ := Aside0.mk (below_step (w := w) bW hb); have n1_ := Aside0.mk (hbox); have n2_ := Aside0.mk (gS (w := w) hg); have n3_ := n2_; clear HB; have HB := n0_; have BK664 := n1_; have GW664 := n2_; have GE664 := n3_; clear n0_ n1_ n2_ n3_; clear hb hbox hg) | ((with_reducible refine gate_dst (N := 3) rfl ?_); refine bE (N := 3) (cs := #[.slice A1_0 l1_0.length c1_0, .slice A1_1 l1_1.length c1_1]) (t := 118) ?_; intro gb665 hg w14 hbox hb; have n0_ := Aside0.mk (kb BK664 hb); have n1_ := Aside0.mk (below_step (w := w) bW hb); have n2_ := Aside0.mk (hbox); have n3_ := Aside0.mk (gS (w := w) hg); have n4_ := n3_; have n5_ := Aside0.mk (nL BK664 hg); have n6_ := Aside0.mk (nG BK664 hg); clear BK664; clear HB; have BK664 := n0_; have HB := n1_; have BK665 := n2_; have GW665 := n3_; have GE665 := n4_; have NB664_665 := n5_; have NB665_664 := n6_; clear n0_ n1_ n2_ n3_ n4_ n5_ n6_; clear hb hbox hg; have hnb15 := NB664_665.out; have hnc15 := NB665_664.out; obtain ⟨hcz16_0, hcz16_1⟩ := cz2 BK664; obtain ⟨hfz16_0, hfz16_1⟩ := fz2 BK664; obtain ⟨hcz17_0, hcz17_1⟩ := cz2 BK665; obtain ⟨hfz17_0, hfz17_1⟩ := fz2 BK665) | ((with_reducible refine gate_callee (f := 166) rfl ?_); refine goesL_ (some 9) rfl rfl Try.func166 (by kernel_rfl) rfl #[.slice A0_0 l0_0.length c0_0, .slice A1_0 l1_0.length c1_0] rfl gA ?_; (with_reducible refine (laws_eqIntS.calls k _ _ l0_0 _ _ l1_0 true _ ?side1 ?side2 ?side3 ?side4 A3.out).mono ?_); (case side1 => exact cB HR0_0); (case side2 => exact HC0_0.out); (case side3 => exact cB HR1_0); (case side4 => exact HC1_0.out); rintro e w' ⟨rfl, ⟨nd, rfl⟩⟩; refine ⟨_, rfl, ?_⟩) | ((with_reducible refine gate_callee (f := 19) rfl ?_); refine goesL_ (some 15) rfl rfl Try.func19 (by kernel_rfl) rfl #[.slice A0_1 l0_1.length c0_1, .slice A1_1 l1_1.length c1_1] rfl gA ?_; (with_reducible refine (laws_eqEntryS.calls k _ _ l0_1 _ _ l1_1 false _ ?side1 ?side2 ?side3 ?side4 A5.out).mono ?_); (case side1 => exact cB HR0_1); (case side2 => exact HC0_1.out); (case side3 => exact cB HR1_1); (case side4 => exact HC1_1.out); rintro e w18 ⟨rfl, hb⟩; refine ⟨_, rfl, ?_⟩; have n0_ := Aside0.mk (kb BK664 hb); have n1_ := Aside0.mk (kb BK665 hb); have n2_ := Aside0.mk (below_step (w := w) bW hb); clear BK664; clear BK665; clear HB; have BK664 := n0_; have BK665 := n1_; have HB := n2_; clear n0_ n1_ n2_; (try clear hb); (try clear hb2); (try clear hk); (try clear hi)))
      go_ret
      exact ⟨rE, bW⟩
  · replace c4 := Bool.eq_false_iff.mpr c4
    subst c4
    have H1 : (some false) = some r := by rw [if_neg (show ¬ (false = true) by decide)] at H; exact H
    clear H
    have H := H1
    clear H1
    obtain rfl := Option.some.inj H
    go_enter Try.func77, Try.ntmps77
    go_wp2_with (first | ((with_reducible refine gate_dst (N := 2) rfl ?_); refine bE (N := 2) (cs := #[.slice A0_0 l0_0.length c0_0, .slice A0_1 l0_1.length c0_1]) (t := 118) ?_; intro gb664 hg w19 hbox hb; have n0_ := Aside0.mk (below_step (w := w) bW hb); have n1_ := Aside0.mk (hbox); have n2_ := Aside0.mk (gS (w := w) hg); have n3_ := n2_; clear HB; have HB := n0_; have BK664 := n1_; have GW664 := n2_; have GE664 := n3_; clear n0_ n1_ n2_ n3_; clear hb hbox hg) | ((with_reducible refine gate_dst (N := 3) rfl ?_); refine bE (N := 3) (cs := #[.slice A1_0 l1_0.length c1_0, .slice A1_1 l1_1.length c1_1]) (t := 118) ?_; intro gb665 hg w20 hbox hb; have n0_ := Aside0.mk (kb BK664 hb); have n1_ := Aside0.mk (below_step (w := w) bW hb); have n2_ := Aside0.mk (hbox); have n3_ := Aside0.mk (gS (w := w) hg); have n4_ := n3_; have n5_ := Aside0.mk (nL BK664 hg); have n6_ := Aside0.mk (nG BK664 hg); clear BK664; clear HB; have BK664 := n0_; have HB := n1_; have BK665 := n2_; have GW665 := n3_; have GE665 := n4_; have NB664_665 := n5_; have NB665_664 := n6_; clear n0_ n1_ n2_ n3_ n4_ n5_ n6_; clear hb hbox hg; have hnb21 := NB664_665.out; have hnc21 := NB665_664.out; obtain ⟨hcz22_0, hcz22_1⟩ := cz2 BK664; obtain ⟨hfz22_0, hfz22_1⟩ := fz2 BK664; obtain ⟨hcz23_0, hcz23_1⟩ := cz2 BK665; obtain ⟨hfz23_0, hfz23_1⟩ := fz2 BK665) | ((with_reducible refine gate_callee (f := 166) rfl ?_); refine goesL_ (some 9) rfl rfl Try.func166 (by kernel_rfl) rfl #[.slice A0_0 l0_0.length c0_0, .slice A1_0 l1_0.length c1_0] rfl gA ?_; (with_reducible refine (laws_eqIntS.calls k _ _ l0_0 _ _ l1_0 false _ ?side1 ?side2 ?side3 ?side4 A3.out).mono ?_); (case side1 => exact cB HR0_0); (case side2 => exact HC0_0.out); (case side3 => exact cB HR1_0); (case side4 => exact HC1_0.out); rintro e w' ⟨rfl, ⟨nd, rfl⟩⟩; refine ⟨_, rfl, ?_⟩))
    go_ret
    exact ⟨rE, bW⟩
end Go.Proofs.Ytcpljigliklgcaa.Q
end

section
namespace Go.Proofs.Ytcpljigliklgcaa.Q
open Go.RowKit Go.Proofs.YtcpljigliklgcaaW.PrintWords Go.Proofs.YtcpljigliklgcaaW.PrintLast Go.Proofs.YtcpljigliklgcaaW.PrintMore
attribute [local go_sem] max2_int min2_int max_two min_two max_three min_three max_four min_four   -- for this text's walks alone
set_option linter.unusedVariables false
set_option linter.unusedSimpArgs false
attribute [local go_sem] bin_leq bin_gtr bin_geq
def laws_eqCommitS.l0 : Nat → List (S118) → List (S118) → Int → Option (Bool)
  | 0, _, _, _ => none
  | k + 1, x0, x1, x5 => if x5 < (x0.length : Int) then (if 0 ≤ x5 then (if x5 < (x1.length : Int) then ((laws_eqCommit.f k ((rd_T118 x0 x5).f0) ((rd_T118 x0 x5).f1) ((rd_T118 x1 x5).f0) ((rd_T118 x1 x5).f1)).bind fun t670 => (if t670 = true then (laws_eqCommitS.l0 k x0 x1 (wrap64 (x5 + 1))) else (some false))) else (none)) else (none)) else (some true)
def laws_eqCommitS.f (k : Nat) (l0 : List (S118)) (l1 : List (S118)) : Option (Bool) := if (l0.length : Int) = (l1.length : Int) then (laws_eqCommitS.l0 k l0 l1 0) else (some false)
def laws_eqCommitS.T6 : Bool × List (List Nat × List Nat) := (true, [([], []), ([], []), ([0, 1], [0, 1]), ([2], [2]), ([], []), ([], []), ([4, 5], [4, 5]), ([6], [6]), ([3, 7], [3, 7]), ([8], [8])])
def laws_eqCommitS.B6 : List Nat := [0, 0, 3, 7, 0, 0, 48, 112, 255, 511]
theorem laws_eqCommitS.tab6 : rtab .any (opsOf Try.f119 6) = laws_eqCommitS.T6 := by kernel_rfl
theorem laws_eqCommitS.bits6 : waitsOk laws_eqCommitS.T6.2 laws_eqCommitS.B6 = true := by kernel_rfl
set_option maxHeartbeats 8000000 in
set_option maxRecDepth 100000 in
theorem laws_eqCommitS.calls (k : Nat) (A0 : Option Addr) (c0 : Nat) (l0 : List (S118)) (A1 : Option Addr) (c1 : Nat) (l1 : List (S118)) (r : Bool) (w : World) (hr0 : Kd.C k118 w A0 l0.length l0) (hc0 : l0.length ≤ c0) (hr1 : Kd.C k118 w A1 l1.length l1) (hc1 : l1.length ≤ c1) (h : laws_eqCommitS.f k l0 l1 = some r) :
    Calls Try.prog 119 #[.slice A0 l0.length c0, .slice A1 l1.length c1] w fun e w' => e = .returned (.bool r) ∧ Below w.heap.size w w' := by
  have hu118 := Try.underlying118
  have HR0 := Aside0.mk hr0
  have HC0 := Aside0.mk hc0
  clear hr0 hc0
  have HR1 := Aside0.mk hr1
  have HC1 := Aside0.mk hc1
  clear hr1 hc1
  have HB := Aside0.mk (Below.refl w.heap.size w)
  have H : (if (l0.length : Int) = (l1.length : Int) then (laws_eqCommitS.l0 k l0 l1 0) else (some false)) = some r := h
  clear h
  by_cases c3 : (l0.length : Int) = (l1.length : Int)
  · rw [if_pos c3] at H
    have c3b0 : ((l0.length : Int) == (l1.length : Int)) = true := beq_iff_eq.mpr c3
    have c3b1 : ((l0.length : Int) != (l1.length : Int)) = false := bne_eq_false_iff_eq.mpr c3
    have c3b2 : (l0.length == l1.length) = true := by first | simpa using c3 | (simp at c3 ⊢; omega)
    clear c3
    have H' := Aside0.mk H
    clear H
    go_enter Try.func119, Try.ntmps119
    go_wp2
    go_loopg [5] k (fun kq v5 w' => ∃ (x5_1 : Int), v5 = .int .i64 x5_1 ∧ Aside0 (laws_eqCommitS.l0 kq l0 l1 x5_1 = some r) ∧ Aside0 (kq ≤ k) ∧ Aside0 (Below w.heap.size w w'))
    case atStart => exact ⟨(0), vE, H', ⟨Nat.le_refl _⟩, ⟨bW⟩⟩
    case round =>
      clear H'
      try clear c1
      try clear p2
      try clear c3
      try clear c3b0
      try clear c3b1
      try clear c3b2
      obtain ⟨x5_1, rfl, HA, HK1, HB⟩ := hrel
      cases gk with
      | zero => exact absurd HA.out (by simp [laws_eqCommitS.l0])
      | succ k1 =>
        have H := HA.out
        clear HA
        simp only [laws_eqCommitS.l0] at H
        by_cases c4 : x5_1 < (l0.length : Int)
        · rw [if_pos c4] at H
          have c4b0 : decide (x5_1 < (l0.length : Int)) = true := decide_eq_true c4
          clear c4
          by_cases c5 : 0 ≤ x5_1
          · rw [if_pos c5] at H
            have c5b0 : decide (0 ≤ x5_1) = true := decide_eq_true c5
            clear c5
            by_cases c6 : x5_1 < (l1.length : Int)
            · rw [if_pos c6] at H
              have c6b0 : decide (x5_1 < (l1.length : Int)) = true := decide_eq_true c6
              clear c6
              replace H := Option.bind_eq_some_iff.mp H
              obtain ⟨t670, A70, H⟩ := H
              replace H : (if t670 = true then (laws_eqCommitS.l0 k1 l0 l1 (wrap64 (x5_1 + 1))) else (some false)) = some r := H
              have A7 := Aside0.mk A70
              clear A70
              by_cases c8 : t670 = true
              · subst c8
                have H1 : (laws_eqCommitS.l0 k1 l0 l1 (wrap64 (x5_1 + 1))) = some r := by rw [if_pos rfl] at H; exact H
                clear H
                have H := H1
                clear H1
                have H' := Aside0.mk H
                clear H
                try go_wp2
                have n0_ := Aside0.mk (below_drew1 HB.out)
                clear HB
                have HB := n0_
                clear n0_
                have p668 : 0 ≤ (x5_1 : Int) := odt
                have q668 : x5_1 < (l0.length : Int) := odt
                obtain ⟨ad668, A668_0, c668_0, A668_1, c668_1, e668, hx668_0, hx668_1, hl668_0, hi668_0, hl668_1, hi668_1⟩ := at_T118 HR0.out x5_1 p668 q668
                have hw668_1 := hx668_1
                have hw668_0 := hx668_0
                cases e668
                replace hx668_0 := (HB.out.cell (World.block_lt_of_cell? w _ hx668_0)).trans hx668_0
                replace hx668_1 := (HB.out.cell (World.block_lt_of_cell? w _ hx668_1)).trans hx668_1
                have HR668_0 := Aside0.mk hi668_0
                have HC668_0 := Aside0.mk hl668_0
                clear hi668_0 hl668_0
                have HR668_1 := Aside0.mk hi668_1
                have HC668_1 := Aside0.mk hl668_1
                clear hi668_1 hl668_1
                replace p668 := eq_true p668
                replace q668 := eq_true q668
                have p669 : 0 ≤ (x5_1 : Int) := odt
                have q669 : x5_1 < (l1.length : Int) := odt
                obtain ⟨ad669, A669_0, c669_0, A669_1, c669_1, e669, hx669_0, hx669_1, hl669_0, hi669_0, hl669_1, hi669_1⟩ := at_T118 HR1.out x5_1 p669 q669
                have hw669_1 := hx669_1
                have hw669_0 := hx669_0
                cases e669
                replace hx669_0 := (HB.out.cell (World.block_lt_of_cell? w _ hx669_0)).trans hx669_0
                replace hx669_1 := (HB.out.cell (World.block_lt_of_cell? w _ hx669_1)).trans hx669_1
                have HR669_0 := Aside0.mk hi669_0
                have HC669_0 := Aside0.mk hl669_0
                clear hi669_0 hl669_0
                have HR669_1 := Aside0.mk hi669_1
                have HC669_1 := Aside0.mk hl669_1
                clear hi669_1 hl669_1
                replace p669 := eq_true p669
                replace q669 := eq_true q669
                refine start_ (n := 10) (S := fun w' => w'.cell? (ad668.add ((x5_1).toNat * 2)) = some (.slice A668_0 ((rd_T118 l0 x5_1).f0).length c668_0) ∧ w'.cell? ⟨(ad668.add ((x5_1).toNat * 2)).block, (ad668.add ((x5_1).toNat * 2)).off + 1, none⟩ = some (.slice A668_1 ((rd_T118 l0 x5_1).f1).length c668_1) ∧ w'.cell? (ad669.add ((x5_1).toNat * 2)) = some (.slice A669_0 ((rd_T118 l1 x5_1).f0).length c669_0) ∧ w'.cell? ⟨(ad669.add ((x5_1).toNat * 2)).block, (ad669.add ((x5_1).toNat * 2)).off + 1, none⟩ = some (.slice A669_1 ((rd_T118 l1 x5_1).f1).length c669_1)) (ds := []) #[false, false, false, false, false, false, false, false, false, false] (by kernel_rfl) rfl rfl ⟨((HB.out.cell (World.block_lt_of_cell? w _ hw668_0)).trans hw668_0), ((HB.out.cell (World.block_lt_of_cell? w _ hw668_1)).trans hw668_1), ((HB.out.cell (World.block_lt_of_cell? w _ hw669_0)).trans hw669_0), ((HB.out.cell (World.block_lt_of_cell? w _ hw669_1)).trans hw669_1)⟩ (fun hHeld => ?_); refine with_tabW laws_eqCommitS.tab6 laws_eqCommitS.bits6 (fun HT_ HW_ => ?_)
                generalize wr.drew = w9 at HB HR668_0 HR668_1 HR669_0 HR669_1 hx668_0 hx668_1 hx669_0 hx669_1 hHeld ⊢
                refine pure_ (i := 0) (N := some 17) (v := ?_) (a' := ?_) #[true, false, false, false, false, false, false, false, false, false] rfl rfl (any_of HT_.out (by kernel_rfl)) (fun _ _ _ h => h) (Or.inl ⟨by rfl, ?_⟩) ?_ ?_
                rotate_left
                · intro w'
                  go_simp
                  with_reducible rfl
                rotate_left
                · simp only [Act.put, List.setIfInBounds_toArray, List.set_cons_zero, List.set_cons_succ, i64_w, i32_w]
                  rfl
                refine pure_ (i := 1) (N := some 18) (v := ?_) (a' := ?_) #[true, true, false, false, false, false, false, false, false, false] rfl rfl (any_of HT_.out (by kernel_rfl)) (fun _ _ _ h => h) (Or.inl ⟨by rfl, ?_⟩) ?_ ?_
                rotate_left
                · intro w'
                  go_simp
                  with_reducible rfl
                rotate_left
                · simp only [Act.put, List.setIfInBounds_toArray, List.set_cons_zero, List.set_cons_succ, i64_w, i32_w]
                  rfl
                refine pure_ (i := 2) (N := some 19) (v := ?_) (a' := ?_) #[true, true, true, false, false, false, false, false, false, false] rfl rfl (any_of HT_.out (by kernel_rfl)) (fun _ _ _ h => h) (Or.inl ⟨by rfl, ?_⟩) ?_ ?_
                rotate_left
                · intro w'
                  go_simp
                  with_reducible rfl
                rotate_left
                · simp only [Act.put, List.setIfInBounds_toArray, List.set_cons_zero, List.set_cons_succ, i64_w, i32_w]
                  rfl
                refine pure_ (i := 4) (N := some 21) (v := ?_) (a' := ?_) #[true, true, true, false, true, false, false, false, false, false] rfl rfl (any_of HT_.out (by kernel_rfl)) (fun _ _ _ h => h) (Or.inl ⟨by rfl, ?_⟩) ?_ ?_
                rotate_left
                · intro w'
                  go_simp
                  with_reducible rfl
                rotate_left
                · simp only [Act.put, List.setIfInBounds_toArray, List.set_cons_zero, List.set_cons_succ, i64_w, i32_w]
                  rfl
                refine pure_ (i := 5) (N := some 22) (v := ?_) (a' := ?_) #[true, true, true, false, true, true, false, false, false, false] rfl rfl (any_of HT_.out (by kernel_rfl)) (fun _ _ _ h => h) (Or.inl ⟨by rfl, ?_⟩) ?_ ?_
                rotate_left
                · intro w'
                  go_simp
                  with_reducible rfl
                rotate_left
                · simp only [Act.put, List.setIfInBounds_toArray, List.set_cons_zero, List.set_cons_succ, i64_w, i32_w]
                  rfl
                refine pure_ (i := 6) (N := some 23) (v := ?_) (a' := ?_) #[true, true, true, false, true, true, true, false, false, false] rfl rfl (any_of HT_.out (by kernel_rfl)) (fun _ _ _ h => h) (Or.inl ⟨by rfl, ?_⟩) ?_ ?_
                rotate_left
                · intro w'
                  go_simp
                  with_reducible rfl
                rotate_left
                · simp only [Act.put, List.setIfInBounds_toArray, List.set_cons_zero, List.set_cons_succ, i64_w, i32_w]
                  rfl
                refine take_ (i := 3) (N := some 20) (v := ?_) (a' := ?_) #[true, true, true, true, true, true, true, false, false, false] rfl rfl (take_ofW HT_.out HW_.out (by kernel_rfl)) (fun _ _ _ h => h) (Or.inl ⟨by rfl, ?_⟩) hHeld ?_ ?_
                rotate_left
                · rintro w' ⟨s0, s1, s2, s3⟩
                  go_simp
                  with_reducible rfl
                rotate_left
                · simp only [Act.put, List.setIfInBounds_toArray, List.set_cons_zero, List.set_cons_succ, i64_w, i32_w]
                  rfl
                refine take_ (i := 7) (N := some 24) (v := ?_) (a' := ?_) #[true, true, true, true, true, true, true, true, false, false] rfl rfl (take_ofW HT_.out HW_.out (by kernel_rfl)) (fun _ _ _ h => h) (Or.inl ⟨by rfl, ?_⟩) hHeld ?_ ?_
                rotate_left
                · rintro w' ⟨s0, s1, s2, s3⟩
                  go_simp
                  with_reducible rfl
                rotate_left
                · simp only [Act.put, List.setIfInBounds_toArray, List.set_cons_zero, List.set_cons_succ, i64_w, i32_w]
                  rfl
                refine one_ (i := 8) (N := some 25) #[true, true, true, true, true, true, true, true, true, false] rfl rfl (one_of HT_.out (by kernel_rfl)) (by decide) (fun K hK => ?_)
                refine goes_ Try.func77 (by kernel_rfl) rfl #[.agg #[.slice A668_0 ((rd_T118 l0 x5_1).f0).length c668_0, .slice A668_1 ((rd_T118 l0 x5_1).f1).length c668_1], .agg #[.slice A669_0 ((rd_T118 l1 x5_1).f0).length c669_0, .slice A669_1 ((rd_T118 l1 x5_1).f1).length c669_1]] (by rfl) rfl rfl gA ?_
                with_reducible refine (laws_eqCommit.calls k1 _ _ ((rd_T118 l0 x5_1).f0) _ _ ((rd_T118 l0 x5_1).f1) _ _ ((rd_T118 l1 x5_1).f0) _ _ ((rd_T118 l1 x5_1).f1) true _ ?side1 ?side2 ?side3 ?side4 ?side5 ?side6 ?side7 ?side8 A7.out).mono ?_
                (case side1 => exact cB HR668_0)
                (case side2 => exact HC668_0.out)
                (case side3 => exact cB HR668_1)
                (case side4 => exact HC668_1.out)
                (case side5 => exact cB HR669_0)
                (case side6 => exact HC669_0.out)
                (case side7 => exact cB HR669_1)
                (case side8 => exact HC669_1.out)
                rintro e w10 ⟨rfl, hb⟩
                refine ⟨_, rfl, ?_⟩
                have n0_ := Aside0.mk (below_step (w := w) bW hb)
                clear HB
                have HB := n0_
                clear n0_
                (try clear hb)
                (try clear hb2)
                (try clear hk)
                (try clear hi)
                refine hK.out _ _ ⟨((HB.out.cell (World.block_lt_of_cell? w _ hw668_0)).trans hw668_0), ((HB.out.cell (World.block_lt_of_cell? w _ hw668_1)).trans hw668_1), ((HB.out.cell (World.block_lt_of_cell? w _ hw669_0)).trans hw669_0), ((HB.out.cell (World.block_lt_of_cell? w _ hw669_1)).trans hw669_1)⟩ (fun hHeld => ?_)
                clear hK K
                refine norm_ (a' := ?_) ?_ ?_
                rotate_left
                · show Act.put _ (some 25) _ = _
                  simp only [Act.put, List.setIfInBounds_toArray, List.set_cons_zero, List.set_cons_succ, i64_w, i32_w]
                  rfl
                refine pure_ (i := 9) (N := some 26) (v := ?_) (a' := ?_) #[true, true, true, true, true, true, true, true, true, true] rfl rfl (any_of HT_.out (by kernel_rfl)) (fun _ _ _ h => h) (Or.inl ⟨by rfl, ?_⟩) ?_ ?_
                rotate_left
                · intro w'
                  go_simp
                  with_reducible rfl
                rotate_left
                · simp only [Act.put, List.setIfInBounds_toArray, List.set_cons_zero, List.set_cons_succ, i64_w, i32_w]
                  rfl
                refine done_ (done_of HT_.out (by kernel_rfl)) ?_
                try go_wp2
                go_roundg k1
                case measure => have := HK1.out; omega
                case rel => exact ⟨(wrap64 (x5_1 + 1)), vE, H', ⟨by have := HK1.out; omega⟩, ⟨bW⟩⟩
              · replace c8 := Bool.eq_false_iff.mpr c8
                subst c8
                have H1 : (some false) = some r := by rw [if_neg (show ¬ (false = true) by decide)] at H; exact H
                clear H
                have H := H1
                clear H1
                obtain rfl := Option.some.inj H
                try go_wp2
                have n0_ := Aside0.mk (below_drew1 HB.out)
                clear HB
                have HB := n0_
                clear n0_
                have p668 : 0 ≤ (x5_1 : Int) := odt
                have q668 : x5_1 < (l0.length : Int) := odt
                obtain ⟨ad668, A668_0, c668_0, A668_1, c668_1, e668, hx668_0, hx668_1, hl668_0, hi668_0, hl668_1, hi668_1⟩ := at_T118 HR0.out x5_1 p668 q668
                have hw668_1 := hx668_1
                have hw668_0 := hx668_0
                cases e668
                replace hx668_0 := (HB.out.cell (World.block_lt_of_cell? w _ hx668_0)).trans hx668_0
                replace hx668_1 := (HB.out.cell (World.block_lt_of_cell? w _ hx668_1)).trans hx668_1
                have HR668_0 := Aside0.mk hi668_0
                have HC668_0 := Aside0.mk hl668_0
                clear hi668_0 hl668_0
                have HR668_1 := Aside0.mk hi668_1
                have HC668_1 := Aside0.mk hl668_1
                clear hi668_1 hl668_1
                replace p668 := eq_true p668
                replace q668 := eq_true q668
                have p669 : 0 ≤ (x5_1 : Int) := odt
                have q669 : x5_1 < (l1.length : Int) := odt
                obtain ⟨ad669, A669_0, c669_0, A669_1, c669_1, e669, hx669_0, hx669_1, hl669_0, hi669_0, hl669_1, hi669_1⟩ := at_T118 HR1.out x5_1 p669 q669
                have hw669_1 := hx669_1
                have hw669_0 := hx669_0
                cases e669
                replace hx669_0 := (HB.out.cell (World.block_lt_of_cell? w _ hx669_0)).trans hx669_0
                replace hx669_1 := (HB.out.cell (World.block_lt_of_cell? w _ hx669_1)).trans hx669_1
                have HR669_0 := Aside0.mk hi669_0
                have HC669_0 := Aside0.mk hl669_0
                clear hi669_0 hl669_0
                have HR669_1 := Aside0.mk hi669_1
                have HC669_1 := Aside0.mk hl669_1
                clear hi669_1 hl669_1
                replace p669 := eq_true p669
                replace q669 := eq_true q669
                refine start_ (n := 10) (S := fun w' => w'.cell? (ad668.add ((x5_1).toNat * 2)) = some (.slice A668_0 ((rd_T118 l0 x5_1).f0).length c668_0) ∧ w'.cell? ⟨(ad668.add ((x5_1).toNat * 2)).block, (ad668.add ((x5_1).toNat * 2)).off + 1, none⟩ = some (.slice A668_1 ((rd_T118 l0 x5_1).f1).length c668_1) ∧ w'.cell? (ad669.add ((x5_1).toNat * 2)) = some (.slice A669_0 ((rd_T118 l1 x5_1).f0).length c669_0) ∧ w'.cell? ⟨(ad669.add ((x5_1).toNat * 2)).block, (ad669.add ((x5_1).toNat * 2)).off + 1, none⟩ = some (.slice A669_1 ((rd_T118 l1 x5_1).f1).length c669_1)) (ds := []) #[false, false, false, false, false, false, false, false, false, false] (by kernel_rfl) rfl rfl ⟨((HB.out.cell (World.block_lt_of_cell? w _ hw668_0)).trans hw668_0), ((HB.out.cell (World.block_lt_of_cell? w _ hw668_1)).trans hw668_1), ((HB.out.cell (World.block_lt_of_cell? w _ hw669_0)).trans hw669_0), ((HB.out.cell (World.block_lt_of_cell? w _ hw669_1)).trans hw669_1)⟩ (fun hHeld => ?_); refine with_tabW laws_eqCommitS.tab6 laws_eqCommitS.bits6 (fun HT_ HW_ => ?_)
                generalize wr.drew = w11 at HB HR668_0 HR668_1 HR669_0 HR669_1 hx668_0 hx668_1 hx669_0 hx669_1 hHeld ⊢
                refine pure_ (i := 0) (N := some 17) (v := ?_) (a' := ?_) #[true, false, false, false, false, false, false, false, false, false] rfl rfl (any_of HT_.out (by kernel_rfl)) (fun _ _ _ h => h) (Or.inl ⟨by rfl, ?_⟩) ?_ ?_
                rotate_left
                · intro w'
                  go_simp
                  with_reducible rfl
                rotate_left
                · simp only [Act.put, List.setIfInBounds_toArray, List.set_cons_zero, List.set_cons_succ, i64_w, i32_w]
                  rfl
                refine pure_ (i := 1) (N := some 18) (v := ?_) (a' := ?_) #[true, true, false, false, false, false, false, false, false, false] rfl rfl (any_of HT_.out (by kernel_rfl)) (fun _ _ _ h => h) (Or.inl ⟨by rfl, ?_⟩) ?_ ?_
                rotate_left
                · intro w'
                  go_simp
                  with_reducible rfl
                rotate_left
                · simp only [Act.put, List.setIfInBounds_toArray, List.set_cons_zero, List.set_cons_succ, i64_w, i32_w]
                  rfl
                refine pure_ (i := 2) (N := some 19) (v := ?_) (a' := ?_) #[true, true, true, false, false, false, false, false, false, false] rfl rfl (any_of HT_.out (by kernel_rfl)) (fun _ _ _ h => h) (Or.inl ⟨by rfl, ?_⟩) ?_ ?_
                rotate_left
                · intro w'
                  go_simp
                  with_reducible rfl
                rotate_left
                · simp only [Act.put, List.setIfInBounds_toArray, List.set_cons_zero, List.set_cons_succ, i64_w, i32_w]
                  rfl
                refine pure_ (i := 4) (N := some 21) (v := ?_) (a' := ?_) #[true, true, true, false, true, false, false, false, false, false] rfl rfl (any_of HT_.out (by kernel_rfl)) (fun _ _ _ h => h) (Or.inl ⟨by rfl, ?_⟩) ?_ ?_
                rotate_left
                · intro w'
                  go_simp
                  with_reducible rfl
                rotate_left
                · simp only [Act.put, List.setIfInBounds_toArray, List.set_cons_zero, List.set_cons_succ, i64_w, i32_w]
                  rfl
                refine pure_ (i := 5) (N := some 22) (v := ?_) (a' := ?_) #[true, true, true, false, true, true, false, false, false, false] rfl rfl (any_of HT_.out (by kernel_rfl)) (fun _ _ _ h => h) (Or.inl ⟨by rfl, ?_⟩) ?_ ?_
                rotate_left
                · intro w'
                  go_simp
                  with_reducible rfl
                rotate_left
                · simp only [Act.put, List.setIfInBounds_toArray, List.set_cons_zero, List.set_cons_succ, i64_w, i32_w]
                  rfl
                refine pure_ (i := 6) (N := some 23) (v := ?_) (a' := ?_) #[true, true, true, false, true, true, true, false, false, false] rfl rfl (any_of HT_.out (by kernel_rfl)) (fun _ _ _ h => h) (Or.inl ⟨by rfl, ?_⟩) ?_ ?_
                rotate_left
                · intro w'
                  go_simp
                  with_reducible rfl
                rotate_left
                · simp only [Act.put, List.setIfInBounds_toArray, List.set_cons_zero, List.set_cons_succ, i64_w, i32_w]
                  rfl
                refine take_ (i := 3) (N := some 20) (v := ?_) (a' := ?_) #[true, true, true, true, true, true, true, false, false, false] rfl rfl (take_ofW HT_.out HW_.out (by kernel_rfl)) (fun _ _ _ h => h) (Or.inl ⟨by rfl, ?_⟩) hHeld ?_ ?_
                rotate_left
                · rintro w' ⟨s0, s1, s2, s3⟩
                  go_simp
                  with_reducible rfl
                rotate_left
                · simp only [Act.put, List.setIfInBounds_toArray, List.set_cons_zero, List.set_cons_succ, i64_w, i32_w]
                  rfl
                refine take_ (i := 7) (N := some 24) (v := ?_) (a' := ?_) #[true, true, true, true, true, true, true, true, false, false] rfl rfl (take_ofW HT_.out HW_.out (by kernel_rfl)) (fun _ _ _ h => h) (Or.inl ⟨by rfl, ?_⟩) hHeld ?_ ?_
                rotate_left
                · rintro w' ⟨s0, s1, s2, s3⟩
                  go_simp
                  with_reducible rfl
                rotate_left
                · simp only [Act.put, List.setIfInBounds_toArray, List.set_cons_zero, List.set_cons_succ, i64_w, i32_w]
                  rfl
                refine one_ (i := 8) (N := some 25) #[true, true, true, true, true, true, true, true, true, false] rfl rfl (one_of HT_.out (by kernel_rfl)) (by decide) (fun K hK => ?_)
                refine goes_ Try.func77 (by kernel_rfl) rfl #[.agg #[.slice A668_0 ((rd_T118 l0 x5_1).f0).length c668_0, .slice A668_1 ((rd_T118 l0 x5_1).f1).length c668_1], .agg #[.slice A669_0 ((rd_T118 l1 x5_1).f0).length c669_0, .slice A669_1 ((rd_T118 l1 x5_1).f1).length c669_1]] (by rfl) rfl rfl gA ?_
                with_reducible refine (laws_eqCommit.calls k1 _ _ ((rd_T118 l0 x5_1).f0) _ _ ((rd_T118 l0 x5_1).f1) _ _ ((rd_T118 l1 x5_1).f0) _ _ ((rd_T118 l1 x5_1).f1) false _ ?side1 ?side2 ?side3 ?side4 ?side5 ?side6 ?side7 ?side8 A7.out).mono ?_
                (case side1 => exact cB HR668_0)
                (case side2 => exact HC668_0.out)
                (case side3 => exact cB HR668_1)
                (case side4 => exact HC668_1.out)
                (case side5 => exact cB HR669_0)
                (case side6 => exact HC669_0.out)
                (case side7 => exact cB HR669_1)
                (case side8 => exact HC669_1.out)
                rintro e w12 ⟨rfl, hb⟩
                refine ⟨_, rfl, ?_⟩
                have n0_ := Aside0.mk (below_step (w := w) bW hb)
                clear HB
                have HB := n0_
                clear n0_
                (try clear hb)
                (try clear hb2)
                (try clear hk)
                (try clear hi)
                refine hK.out _ _ ⟨((HB.out.cell (World.block_lt_of_cell? w _ hw668_0)).trans hw668_0), ((HB.out.cell (World.block_lt_of_cell? w _ hw668_1)).trans hw668_1), ((HB.out.cell (World.block_lt_of_cell? w _ hw669_0)).trans hw669_0), ((HB.out.cell (World.block_lt_of_cell? w _ hw669_1)).trans hw669_1)⟩ (fun hHeld => ?_)
                clear hK K
                refine norm_ (a' := ?_) ?_ ?_
                rotate_left
                · show Act.put _ (some 25) _ = _
                  simp only [Act.put, List.setIfInBounds_toArray, List.set_cons_zero, List.set_cons_succ, i64_w, i32_w]
                  rfl
                refine pure_ (i := 9) (N := some 26) (v := ?_) (a' := ?_) #[true, true, true, true, true, true, true, true, true, true] rfl rfl (any_of HT_.out (by kernel_rfl)) (fun _ _ _ h => h) (Or.inl ⟨by rfl, ?_⟩) ?_ ?_
                rotate_left
                · intro w'
                  go_simp
                  with_reducible rfl
                rotate_left
                · simp only [Act.put, List.setIfInBounds_toArray, List.set_cons_zero, List.set_cons_succ, i64_w, i32_w]
                  rfl
                refine done_ (done_of HT_.out (by kernel_rfl)) ?_
                try go_wp2
                go_ret
                exact ⟨rE, bW⟩
            · rw [if_neg c6] at H
              exact absurd H (by simp)
          · rw [if_neg c5] at H
            exact absurd H (by simp)
        · rw [if_neg c4] at H
          have c4b0 : decide (x5_1 < (l0.length : Int)) = false := decide_eq_false c4
          clear c4
          obtain rfl := Option.some.inj H
          go_wp2
          go_ret
          exact ⟨rE, bW⟩
  · rw [if_neg c3] at H
    have c3b0 : ((l0.length : Int) == (l1.length : Int)) = false := beq_eq_false_iff_ne.mpr c3
    have c3b1 : ((l0.length : Int) != (l1.length : Int)) = true := bne_iff_ne.mpr c3
    have c3b2 : (l0.length == l1.length) = false := by first | simpa using c3 | (simp at c3 ⊢; omega)
    obtain rfl := Option.some.inj H
    go_enter Try.func119, Try.ntmps119
    go_wp2
    go_ret
    exact ⟨rE, bW⟩
end Go.Proofs.Ytcpljigliklgcaa.Q
end

section
namespace Go.Proofs.Ytcpljigliklgcaa.Q
open Go.RowKit Go.Proofs.YtcpljigliklgcaaW.PrintWords Go.Proofs.YtcpljigliklgcaaW.PrintLast Go.Proofs.YtcpljigliklgcaaW.PrintMore
attribute [local go_sem] max2_int min2_int max_two min_two max_three min_three max_four min_four   -- for this text's walks alone
set_option linter.unusedVariables false
set_option linter.unusedSimpArgs false
attribute [local go_sem] bin_leq bin_gtr bin_geq
def laws_eqRef.f (a0_0 : ByteArray) (a0_1 : Int) (a0_2 : Int) (a0_3 : Bool) (a1_0 : ByteArray) (a1_1 : Int) (a1_2 : Int) (a1_3 : Bool) : Option (Bool) := if a0_0.toList = a1_0.toList then (if a0_1 = a1_1 then (if a0_2 = a1_2 then (if (a0_3 != a1_3) = true then (some false) else (some true)) else (some false)) else (some false)) else (some false)
set_option maxHeartbeats 8000000 in
set_option maxRecDepth 100000 in
theorem laws_eqRef.calls (a0_0 : ByteArray) (a0_1 : Int) (a0_2 : Int) (a0_3 : Bool) (a1_0 : ByteArray) (a1_1 : Int) (a1_2 : Int) (a1_3 : Bool) (r : Bool) (w : World) (h : laws_eqRef.f a0_0 a0_1 a0_2 a0_3 a1_0 a1_1 a1_2 a1_3 = some r) :
    Calls Try.prog 188 #[.agg #[.string a0_0, .int .i64 a0_1, .int .i64 a0_2, .bool a0_3], .agg #[.string a1_0, .int .i64 a1_1, .int .i64 a1_2, .bool a1_3]] w fun e w' => e = .returned (.bool r) ∧ Below w.heap.size w w' := by
  have hu178 := Try.underlying178
  have HB := Aside0.mk (Below.refl w.heap.size w)
  have H : (if a0_0.toList = a1_0.toList then (if a0_1 = a1_1 then (if a0_2 = a1_2 then (if (a0_3 != a1_3) = true then (some false) else (some true)) else (some false)) else (some false)) else (some false)) = some r := h
  clear h
  by_cases c3 : a0_0.toList = a1_0.toList
  · rw [if_pos c3] at H
    have c3b0 : (a0_0.toList == a1_0.toList) = true := beq_iff_eq.mpr c3
    have c3b1 : (a0_0.toList != a1_0.toList) = false := bne_eq_false_iff_eq.mpr c3
    clear c3
    by_cases c4 : a0_1 = a1_1
    · rw [if_pos c4] at H
      have c4b0 : (a0_1 == a1_1) = true := beq_iff_eq.mpr c4
      have c4b1 : (a0_1 != a1_1) = false := bne_eq_false_iff_eq.mpr c4
      clear c4
      by_cases c5 : a0_2 = a1_2
      · rw [if_pos c5] at H
        have c5b0 : (a0_2 == a1_2) = true := beq_iff_eq.mpr c5
        have c5b1 : (a0_2 != a1_2) = false := bne_eq_false_iff_eq.mpr c5
        clear c5
        by_cases c6 : (a0_3 != a1_3) = true
        · rw [if_pos c6] at H
          have c6b0 : (a0_3 != a1_3) = true := c6
          (try (have c6b1 : decide (a0_3 = a1_3) = false := by simpa using c6))
          (try (have c6b2 : (a0_3 == a1_3) = false := by simpa using c6))
          (try (have c6b3 : ¬ (a0_3 = a1_3) := by simpa using c6))
          clear c6
          obtain rfl := Option.some.inj H
          go_enter Try.func188, Try.ntmps188
          go_wp2_with (first | ((with_reducible refine gate_dst (N := 2) rfl ?_); refine bE (N := 2) (cs := #[.string a0_0, .int .i64 a0_1, .int .i64 a0_2, .bool a0_3]) (t := 178) ?_; intro gb671 hg w7 hbox hb; have n0_ := Aside0.mk (below_step (w := w) bW hb); have n1_ := Aside0.mk (hbox); have n2_ := Aside0.mk (gS (w := w) hg); have n3_ := n2_; clear HB; have HB := n0_; have BK671 := n1_; have GW671 := n2_; have GE671 := n3_; clear n0_ n1_ n2_ n3_; clear hb hbox hg) | ((with_reducible refine gate_dst (N := 3) rfl ?_); refine bE (N := 3) (cs := #[.string a1_0, .int .i64 a1_1, .int .i64 a1_2, .bool a1_3]) (t := 178) ?_; intro gb672 hg w8 hbox hb; have n0_ := Aside0.mk (kb BK671 hb); have n1_ := Aside0.mk (below_step (w := w) bW hb); have n2_ := Aside0.mk (hbox); have n3_ := Aside0.mk (gS (w := w) hg); have n4_ := n3_; have n5_ := Aside0.mk (nL BK671 hg); have n6_ := Aside0.mk (nG BK671 hg); clear BK671; clear HB; have BK671 := n0_; have HB := n1_; have BK672 := n2_; have GW672 := n3_; have GE672 := n4_; have NB671_672 := n5_; have NB672_671 := n6_; clear n0_ n1_ n2_ n3_ n4_ n5_ n6_; clear hb hbox hg; have hnb9 := NB671_672.out; have hnc9 := NB672_671.out; obtain ⟨hcz10_0, hcz10_1, hcz10_2, hcz10_3⟩ := cz4 BK671; obtain ⟨hfz10_0, hfz10_1, hfz10_2, hfz10_3⟩ := fz4 BK671; obtain ⟨hcz11_0, hcz11_1, hcz11_2, hcz11_3⟩ := cz4 BK672; obtain ⟨hfz11_0, hfz11_1, hfz11_2, hfz11_3⟩ := fz4 BK672))
          go_ret
          exact ⟨rE, bW⟩
        · rw [if_neg c6] at H
          have c6b0 : (a0_3 != a1_3) = false := by simpa using c6
          (try (have c6b1 : decide (a0_3 = a1_3) = true := by simpa using c6))
          (try (have c6b2 : (a0_3 == a1_3) = true := by simpa using c6))
          clear c6
          obtain rfl := Option.some.inj H
          go_enter Try.func188, Try.ntmps188
          go_wp2_with (first | ((with_reducible refine gate_dst (N := 2) rfl ?_); refine bE (N := 2) (cs := #[.string a0_0, .int .i64 a0_1, .int .i64 a0_2, .bool a0_3]) (t := 178) ?_; intro gb671 hg w12 hbox hb; have n0_ := Aside0.mk (below_step (w := w) bW hb); have n1_ := Aside0.mk (hbox); have n2_ := Aside0.mk (gS (w := w) hg); have n3_ := n2_; clear HB; have HB := n0_; have BK671 := n1_; have GW671 := n2_; have GE671 := n3_; clear n0_ n1_ n2_ n3_; clear hb hbox hg) | ((with_reducible refine gate_dst (N := 3) rfl ?_); refine bE (N := 3) (cs := #[.string a1_0, .int .i64 a1_1, .int .i64 a1_2, .bool a1_3]) (t := 178) ?_; intro gb672 hg w13 hbox hb; have n0_ := Aside0.mk (kb BK671 hb); have n1_ := Aside0.mk (below_step (w := w) bW hb); have n2_ := Aside0.mk (hbox); have n3_ := Aside0.mk (gS (w := w) hg); have n4_ := n3_; have n5_ := Aside0.mk (nL BK671 hg); have n6_ := Aside0.mk (nG BK671 hg); clear BK671; clear HB; have BK671 := n0_; have HB := n1_; have BK672 := n2_; have GW672 := n3_; have GE672 := n4_; have NB671_672 := n5_; have NB672_671 := n6_; clear n0_ n1_ n2_ n3_ n4_ n5_ n6_; clear hb hbox hg; have hnb14 := NB671_672.out; have hnc14 := NB672_671.out; obtain ⟨hcz15_0, hcz15_1, hcz15_2, hcz15_3⟩ := cz4 BK671; obtain ⟨hfz15_0, hfz15_1, hfz15_2, hfz15_3⟩ := fz4 BK671; obtain ⟨hcz16_0, hcz16_1, hcz16_2, hcz16_3⟩ := cz4 BK672; obtain ⟨hfz16_0, hfz16_1, hfz16_2, hfz16_3⟩ := fz4 BK672))
          go_ret
          exact ⟨rE, bW⟩
      · rw [if_neg c5] at H
        have c5b0 : (a0_2 == a1_2) = false := beq_eq_false_iff_ne.mpr c5
        have c5b1 : (a0_2 != a1_2) = true := bne_iff_ne.mpr c5
        obtain rfl := Option.some.inj H
        go_enter Try.func188, Try.ntmps188
        go_wp2_with (first | ((with_reducible refine gate_dst (N := 2) rfl ?_); refine bE (N := 2) (cs := #[.string a0_0, .int .i64 a0_1, .int .i64 a0_2, .bool a0_3]) (t := 178) ?_; intro gb671 hg w17 hbox hb; have n0_ := Aside0.mk (below_step (w := w) bW hb); have n1_ := Aside0.mk (hbox); have n2_ := Aside0.mk (gS (w := w) hg); have n3_ := n2_; clear HB; have HB := n0_; have BK671 := n1_; have GW671 := n2_; have GE671 := n3_; clear n0_ n1_ n2_ n3_; clear hb hbox hg) | ((with_reducible refine gate_dst (N := 3) rfl ?_); refine bE (N := 3) (cs := #[.string a1_0, .int .i64 a1_1, .int .i64 a1_2, .bool a1_3]) (t := 178) ?_; intro gb672 hg w18 hbox hb; have n0_ := Aside0.mk (kb BK671 hb); have n1_ := Aside0.mk (below_step (w := w) bW hb); have n2_ := Aside0.mk (hbox); have n3_ := Aside0.mk (gS (w := w) hg); have n4_ := n3_; have n5_ := Aside0.mk (nL BK671 hg); have n6_ := Aside0.mk (nG BK671 hg); clear BK671; clear HB; have BK671 := n0_; have HB := n1_; have BK672 := n2_; have GW672 := n3_; have GE672 := n4_; have NB671_672 := n5_; have NB672_671 := n6_; clear n0_ n1_ n2_ n3_ n4_ n5_ n6_; clear hb hbox hg; have hnb19 := NB671_672.out; have hnc19 := NB672_671.out; obtain ⟨hcz20_0, hcz20_1, hcz20_2, hcz20_3⟩ := cz4 BK671; obtain ⟨hfz20_0, hfz20_1, hfz20_2, hfz20_3⟩ := fz4 BK671; obtain ⟨hcz21_0, hcz21_1, hcz21_2, hcz21_3⟩ := cz4 BK672; obtain ⟨hfz21_0, hfz21_1, hfz21_2, hfz21_3⟩ := fz4 BK672))
        go_ret
        exact ⟨rE, bW⟩
    · rw [if_neg c4] at H
      have c4b0 : (a0_1 == a1_1) = false := beq_eq_false_iff_ne.mpr c4
      have c4b1 : (a0_1 != a1_1) = true := bne_iff_ne.mpr c4
      obtain rfl := Option.some.inj H
      go_enter Try.func188, Try.ntmps188
      go_wp2_with (first | ((with_reducible refine gate_dst (N := 2) rfl ?_); refine bE (N := 2) (cs := #[.string a0_0, .int .i64 a0_1, .int .i64 a0_2, .bool a0_3]) (t := 178) ?_; intro gb671 hg w22 hbox hb; have n0_ := Aside0.mk (below_step (w := w) bW hb); have n1_ := Aside0.mk (hbox); have n2_ := Aside0.mk (gS (w := w) hg); have n3_ := n2_; clear HB; have HB := n0_; have BK671 := n1_; have GW671 := n2_; have GE671 := n3_; clear n0_ n1_ n2_ n3_; clear hb hbox hg) | ((with_reducible refine gate_dst (N := 3) rfl ?_); refine bE (N := 3) (cs := #[.string a1_0, .int .i64 a1_1, .int .i64 a1_2, .bool a1_3]) (t := 178) ?_; intro gb672 hg w23 hbox hb; have n0_ := Aside0.mk (kb BK671 hb); have n1_ := Aside0.mk (below_step (w := w) bW hb); have n2_ := Aside0.mk (hbox); have n3_ := Aside0.mk (gS (w := w) hg); have n4_ := n3_; have n5_ := Aside0.mk (nL BK671 hg); have n6_ := Aside0.mk (nG BK671 hg); clear BK671; clear HB; have BK671 := n0_; have HB := n1_; have BK672 := n2_; have GW672 := n3_; have GE672 := n4_; have NB671_672 := n5_; have NB672_671 := n6_; clear n0_ n1_ n2_ n3_ n4_ n5_ n6_; clear hb hbox hg; have hnb24 := NB671_672.out; have hnc24 := NB672_671.out; obtain ⟨hcz25_0, hcz25_1, hcz25_2, hcz25_3⟩ := cz4 BK671; obtain ⟨hfz25_0, hfz25_1, hfz25_2, hfz25_3⟩ := fz4 BK671; obtain ⟨hcz26_0, hcz26_1, hcz26_2, hcz26_3⟩ := cz4 BK672; obtain ⟨hfz26_0, hfz26_1, hfz26_2, hfz26_3⟩ := fz4 BK672))
      go_ret
      exact ⟨rE, bW⟩
  · rw [if_neg c3] at H
    have c3b0 : (a0_0.toList == a1_0.toList) = false := beq_eq_false_iff_ne.mpr c3
    have c3b1 : (a0_0.toList != a1_0.toList) = true := bne_iff_ne.mpr c3
    obtain rfl := Option.some.inj H
    go_enter Try.func188, Try.ntmps188
    go_wp2_with (first | ((with_reducible refine gate_dst (N := 2) rfl ?_); refine bE (N := 2) (cs := #[.string a0_0, .int .i64 a0_1, .int .i64 a0_2, .bool a0_3]) (t := 178) ?_; intro gb671 hg w27 hbox hb; have n0_ := Aside0.mk (below_step (w := w) bW hb); have n1_ := Aside0.mk (hbox); have n2_ := Aside0.mk (gS (w := w) hg); have n3_ := n2_; clear HB; have HB := n0_; have BK671 := n1_; have GW671 := n2_; have GE671 := n3_; clear n0_ n1_ n2_ n3_; clear hb hbox hg) | ((with_reducible refine gate_dst (N := 3) rfl ?_); refine bE (N := 3) (cs := #[.string a1_0, .int .i64 a1_1, .int .i64 a1_2, .bool a1_3]) (t := 178) ?_; intro gb672 hg w28 hbox hb; have n0_ := Aside0.mk (kb BK671 hb); have n1_ := Aside0.mk (below_step (w := w) bW hb); have n2_ := Aside0.mk (hbox); have n3_ := Aside0.mk (gS (w := w) hg); have n4_ := n3_; have n5_ := Aside0.mk (nL BK671 hg); have n6_ := Aside0.mk (nG BK671 hg); clear BK671; clear HB; have BK671 := n0_; have HB := n1_; have BK672 := n2_; have GW672 := n3_; have GE672 := n4_; have NB671_672 := n5_; have NB672_671 := n6_; clear n0_ n1_ n2_ n3_ n4_ n5_ n6_; clear hb hbox hg; have hnb29 := NB671_672.out; have hnc29 := NB672_671.out; obtain ⟨hcz30_0, hcz30_1, hcz30_2, hcz30_3⟩ := cz4 BK671; obtain ⟨hfz30_0, hfz30_1, hfz30_2, hfz30_3⟩ := fz4 BK671; obtain ⟨hcz31_0, hcz31_1, hcz31_2, hcz31_3⟩ := cz4 BK672; obtain ⟨hfz31_0, hfz31_1, hfz31_2, hfz31_3⟩ := fz4 BK672))
    go_ret
    exact ⟨rE, bW⟩
end Go.Proofs.Ytcpljigliklgcaa.Q
end

section
namespace Go.Proofs.Ytcpljigliklgcaa.Q
open Go.RowKit Go.Proofs.YtcpljigliklgcaaW.PrintWords Go.Proofs.YtcpljigliklgcaaW.PrintLast Go.Proofs.YtcpljigliklgcaaW.PrintMore
attribute [local go_sem] max2_int min2_int max_two min_two max_three min_three max_four min_four   -- for this text's walks alone
set_option linter.unusedVariables false
set_option linter.unusedSimpArgs false
attribute [local go_sem] bin_leq bin_gtr bin_geq
def laws_eqRefS.l0 : Nat → List (S178) → List (S178) → Int → Option (Bool)
  | 0, _, _, _ => none
  | k + 1, x0, x1, x5 => if x5 < (x0.length : Int) then (if 0 ≤ x5 then (if x5 < (x1.length : Int) then ((laws_eqRef.f ((rd_T178 x0 x5).f0) ((rd_T178 x0 x5).f1) ((rd_T178 x0 x5).f2) ((rd_T178 x0 x5).f3) ((rd_T178 x1 x5).f0) ((rd_T178 x1 x5).f1) ((rd_T178 x1 x5).f2) ((rd_T178 x1 x5).f3)).bind fun t675 => (if t675 = true then (laws_eqRefS.l0 k x0 x1 (wrap64 (x5 + 1))) else (some false))) else (none)) else (none)) else (some true)
def laws_eqRefS.f (k : Nat) (l0 : List (S178)) (l1 : List (S178)) : Option (Bool) := if (l0.length : Int) = (l1.length : Int) then (laws_eqRefS.l0 k l0 l1 0) else (some false)
def laws_eqRefS.T6 : Bool × List (List Nat × List Nat) := (true, [([], []), ([], []), ([0, 1], [0, 1]), ([2], [2]), ([], []), ([], []), ([4, 5], [4, 5]), ([6], [6]), ([3, 7], [3, 7]), ([8], [8])])
def laws_eqRefS.B6 : List Nat := [0, 0, 3, 7, 0, 0, 48, 112, 255, 511]
theorem laws_eqRefS.tab6 : rtab .any (opsOf Try.f120 6) = laws_eqRefS.T6 := by kernel_rfl
theorem laws_eqRefS.bits6 : waitsOk laws_eqRefS.T6.2 laws_eqRefS.B6 = true := by kernel_rfl
set_option maxHeartbeats 8000000 in
set_option maxRecDepth 100000 in
theorem laws_eqRefS.calls (k : Nat) (A0 : Option Addr) (c0 : Nat) (l0 : List (S178)) (A1 : Option Addr) (c1 : Nat) (l1 : List (S178)) (r : Bool) (w : World) (hr0 : Kd.C k178 w A0 l0.length l0) (hc0 : l0.length ≤ c0) (hr1 : Kd.C k178 w A1 l1.length l1) (hc1 : l1.length ≤ c1) (h : laws_eqRefS.f k l0 l1 = some r) :
    Calls Try.prog 120 #[.slice A0 l0.length c0, .slice A1 l1.length c1] w fun e w' => e = .returned (.bool r) ∧ Below w.heap.size w w' := by
  have hu178 := Try.underlying178
  have HR0 := Aside0.mk hr0
  have HC0 := Aside0.mk hc0
  clear hr0 hc0
  have HR1 := Aside0.mk hr1
  have HC1 := Aside0.mk hc1
  clear hr1 hc1
  have HB := Aside0.mk (Below.refl w.heap.size w)
  have H : (if (l0.length : Int) = (l1.length : Int) then (laws_eqRefS.l0 k l0 l1 0) else (some false)) = some r := h
  clear h
  by_cases c3 : (l0.length : Int) = (l1.length : Int)
  · rw [if_pos c3] at H
    have c3b0 : ((l0.length : Int) == (l1.length : Int)) = true := beq_iff_eq.mpr c3
    have c3b1 : ((l0.length : Int) != (l1.length : Int)) = false := bne_eq_false_iff_eq.mpr c3
    have c3b2 : (l0.length == l1.length) = true := by first | simpa using c3 | (simp at c3 ⊢; omega)
    clear c3
    have H' := Aside0.mk H
    clear H
    go_enter Try.func120, Try.ntmps120
    go_wp2
    go_loopg [5] k (fun kq v5 w' => ∃ (x5_1 : Int), v5 = .int .i64 x5_1 ∧ Aside0 (laws_eqRefS.l0 kq l0 l1 x5_1 = some r) ∧ Aside0 (kq ≤ k) ∧ Aside0 (Below w.heap.size w w'))
    case atStart => exact ⟨(0), vE, H', ⟨Nat.le_refl _⟩, ⟨bW⟩⟩
    case round =>
      clear H'
      try clear c1
      try clear p2
      try clear c3
      try clear c3b0
      try clear c3b1
      try clear c3b2
      obtain ⟨x5_1, rfl, HA, HK1, HB⟩ := hrel
      cases gk with
      | zero => exact absurd HA.out (by simp [laws_eqRefS.l0])
      | succ k1 =>
        have H := HA.out
        clear HA
        simp only [laws_eqRefS.l0] at H
        by_cases c4 : x5_1 < (l0.length : Int)
        · rw [if_pos c4] at H
          have c4b0 : decide (x5_1 < (l0.length : Int)) = true := decide_eq_true c4
          clear c4
          by_cases c5 : 0 ≤ x5_1
          · rw [if_pos c5] at H
            have c5b0 : decide (0 ≤ x5_1) = true := decide_eq_true c5
            clear c5
            by_cases c6 : x5_1 < (l1.length : Int)
            · rw [if_pos c6] at H
              have c6b0 : decide (x5_1 < (l1.length : Int)) = true := decide_eq_true c6
              clear c6
              replace H := Option.bind_eq_some_iff.mp H
              obtain ⟨t675, A70, H⟩ := H
              replace H : (if t675 = true then (laws_eqRefS.l0 k1 l0 l1 (wrap64 (x5_1 + 1))) else (some false)) = some r := H
              have A7 := Aside0.mk A70
              clear A70
              by_cases c8 : t675 = true
              · subst c8
                have H1 : (laws_eqRefS.l0 k1 l0 l1 (wrap64 (x5_1 + 1))) = some r := by rw [if_pos rfl] at H; exact H
                clear H
                have H := H1
                clear H1
                have H' := Aside0.mk H
                clear H
                try go_wp2
                have n0_ := Aside0.mk (below_drew1 HB.out)
                clear HB
                have HB := n0_
                clear n0_
                have p673 : 0 ≤ (x5_1 : Int) := odt
                have q673 : x5_1 < (l0.length : Int) := odt
                obtain ⟨ad673, e673, hx673_0, hx673_1, hx673_2, hx673_3⟩ := at_T178 HR0.out x5_1 p673 q673
                have hw673_3 := hx673_3
                have hw673_2 := hx673_2
                have hw673_1 := hx673_1
                have hw673_0 := hx673_0
                cases e673
                replace hx673_0 := (HB.out.cell (World.block_lt_of_cell? w _ hx673_0)).trans hx673_0
                replace hx673_1 := (HB.out.cell (World.block_lt_of_cell? w _ hx673_1)).trans hx673_1
                replace hx673_2 := (HB.out.cell (World.block_lt_of_cell? w _ hx673_2)).trans hx673_2
                replace hx673_3 := (HB.out.cell (World.block_lt_of_cell? w _ hx673_3)).trans hx673_3
                replace p673 := eq_true p673
                replace q673 := eq_true q673
                have p674 : 0 ≤ (x5_1 : Int) := odt
                have q674 : x5_1 < (l1.length : Int) := odt
                obtain ⟨ad674, e674, hx674_0, hx674_1, hx674_2, hx674_3⟩ := at_T178 HR1.out x5_1 p674 q674
                have hw674_3 := hx674_3
                have hw674_2 := hx674_2
                have hw674_1 := hx674_1
                have hw674_0 := hx674_0
                cases e674
                replace hx674_0 := (HB.out.cell (World.block_lt_of_cell? w _ hx674_0)).trans hx674_0
                replace hx674_1 := (HB.out.cell (World.block_lt_of_cell? w _ hx674_1)).trans hx674_1
                replace hx674_2 := (HB.out.cell (World.block_lt_of_cell? w _ hx674_2)).trans hx674_2
                replace hx674_3 := (HB.out.cell (World.block_lt_of_cell? w _ hx674_3)).trans hx674_3
                replace p674 := eq_true p674
                replace q674 := eq_true q674
                refine start_ (n := 10) (S := fun w' => w'.cell? (ad673.add ((x5_1).toNat * 4)) = some (.string ((rd_T178 l0 x5_1).f0)) ∧ w'.cell? ⟨(ad673.add ((x5_1).toNat * 4)).block, (ad673.add ((x5_1).toNat * 4)).off + 1, none⟩ = some (.int .i64 ((rd_T178 l0 x5_1).f1)) ∧ w'.cell? ⟨(ad673.add ((x5_1).toNat * 4)).block, (ad673.add ((x5_1).toNat * 4)).off + 2, none⟩ = some (.int .i64 ((rd_T178 l0 x5_1).f2)) ∧ w'.cell? ⟨(ad673.add ((x5_1).toNat * 4)).block, (ad673.add ((x5_1).toNat * 4)).off + 3, none⟩ = some (.bool ((rd_T178 l0 x5_1).f3)) ∧ w'.cell? (ad674.add ((x5_1).toNat * 4)) = some (.string ((rd_T178 l1 x5_1).f0)) ∧ w'.cell? ⟨(ad674.add ((x5_1).toNat * 4)).block, (ad674.add ((x5_1).toNat * 4)).off + 1, none⟩ = some (.int .i64 ((rd_T178 l1 x5_1).f1)) ∧ w'.cell? ⟨(ad674.add ((x5_1).toNat * 4)).block, (ad674.add ((x5_1).toNat * 4)).off + 2, none⟩ = some (.int .i64 ((rd_T178 l1 x5_1).f2)) ∧ w'.cell? ⟨(ad674.add ((x5_1).toNat * 4)).block, (ad674.add ((x5_1).toNat * 4)).off + 3, none⟩ = some (.bool ((rd_T178 l1 x5_1).f3))) (ds := []) #[false, false, false, false, false, false, false, false, false, false] (by kernel_rfl) rfl rfl ⟨((HB.out.cell (World.block_lt_of_cell? w _ hw673_0)).trans hw673_0), ((HB.out.cell (World.block_lt_of_cell? w _ hw673_1)).trans hw673_1), ((HB.out.cell (World.block_lt_of_cell? w _ hw673_2)).trans hw673_2), ((HB.out.cell (World.block_lt_of_cell? w _ hw673_3)).trans hw673_3), ((HB.out.cell (World.block_lt_of_cell? w _ hw674_0)).trans hw674_0), ((HB.out.cell (World.block_lt_of_cell? w _ hw674_1)).trans hw674_1), ((HB.out.cell (World.block_lt_of_cell? w _ hw674_2)).trans hw674_2), ((HB.out.cell (World.block_lt_of_cell? w _ hw674_3)).trans hw674_3)⟩ (fun hHeld => ?_); refine with_tabW laws_eqRefS.tab6 laws_eqRefS.bits6 (fun HT_ HW_ => ?_)
                generalize wr.drew = w9 at HB hx673_0 hx673_1 hx673_2 hx673_3 hx674_0 hx674_1 hx674_2 hx674_3 hHeld ⊢
                refine pure_ (i := 0) (N := some 17) (v := ?_) (a' := ?_) #[true, false, false, false, false, false, false, false, false, false] rfl rfl (any_of HT_.out (by kernel_rfl)) (fun _ _ _ h => h) (Or.inl ⟨by rfl, ?_⟩) ?_ ?_
                rotate_left
                · intro w'
                  go_simp
                  with_reducible rfl
                rotate_left
                · simp only [Act.put, List.setIfInBounds_toArray, List.set_cons_zero, List.set_cons_succ, i64_w, i32_w]
                  rfl
                refine pure_ (i := 1) (N := some 18) (v := ?_) (a' := ?_) #[true, true, false, false, false, false, false, false, false, false] rfl rfl (any_of HT_.out (by kernel_rfl)) (fun _ _ _ h => h) (Or.inl ⟨by rfl, ?_⟩) ?_ ?_
                rotate_left
                · intro w'
                  go_simp
                  with_reducible rfl
                rotate_left
                · simp only [Act.put, List.setIfInBounds_toArray, List.set_cons_zero, List.set_cons_succ, i64_w, i32_w]
                  rfl
                refine pure_ (i := 2) (N := some 19) (v := ?_) (a' := ?_) #[true, true, true, false, false, false, false, false, false, false] rfl rfl (any_of HT_.out (by kernel_rfl)) (fun _ _ _ h => h) (Or.inl ⟨by rfl, ?_⟩) ?_ ?_
                rotate_left
                · intro w'
                  go_simp
                  with_reducible rfl
                rotate_left
                · simp only [Act.put, List.setIfInBounds_toArray, List.set_cons_zero, List.set_cons_succ, i64_w, i32_w]
                  rfl
                refine pure_ (i := 4) (N := some 21) (v := ?_) (a' := ?_) #[true, true, true, false, true, false, false, false, false, false] rfl rfl (any_of HT_.out (by kernel_rfl)) (fun _ _ _ h => h) (Or.inl ⟨by rfl, ?_⟩) ?_ ?_
                rotate_left
                · intro w'
                  go_simp
                  with_reducible rfl
                rotate_left
                · simp only [Act.put, List.setIfInBounds_toArray, List.set_cons_zero, List.set_cons_succ, i64_w, i32_w]
                  rfl
                refine pure_ (i := 5) (N := some 22) (v := ?_) (a' := ?_) #[true, true, true, false, true, true, false, false, false, false] rfl rfl (any_of HT_.out (by kernel_rfl)) (fun _ _ _ h => h) (Or.inl ⟨by rfl, ?_⟩) ?_ ?_
                rotate_left
                · intro w'
                  go_simp
                  with_reducible rfl
                rotate_left
                · simp only [Act.put, List.setIfInBounds_toArray, List.set_cons_zero, List.set_cons_succ, i64_w, i32_w]
                  rfl
                refine pure_ (i := 6) (N := some 23) (v := ?_) (a' := ?_) #[true, true, true, false, true, true, true, false, false, false] rfl rfl (any_of HT_.out (by kernel_rfl)) (fun _ _ _ h => h) (Or.inl ⟨by rfl, ?_⟩) ?_ ?_
                rotate_left
                · intro w'
                  go_simp
                  with_reducible rfl
                rotate_left
                · simp only [Act.put, List.setIfInBounds_toArray, List.set_cons_zero, List.set_cons_succ, i64_w, i32_w]
                  rfl
                refine take_ (i := 3) (N := some 20) (v := ?_) (a' := ?_) #[true, true, true, true, true, true, true, false, false, false] rfl rfl (take_ofW HT_.out HW_.out (by kernel_rfl)) (fun _ _ _ h => h) (Or.inl ⟨by rfl, ?_⟩) hHeld ?_ ?_
                rotate_left
                · rintro w' ⟨s0, s1, s2, s3, s4, s5, s6, s7⟩
                  go_simp
                  with_reducible rfl
                rotate_left
                · simp only [Act.put, List.setIfInBounds_toArray, List.set_cons_zero, List.set_cons_succ, i64_w, i32_w]
                  rfl
                refine take_ (i := 7) (N := some 24) (v := ?_) (a' := ?_) #[true, true, true, true, true, true, true, true, false, false] rfl rfl (take_ofW HT_.out HW_.out (by kernel_rfl)) (fun _ _ _ h => h) (Or.inl ⟨by rfl, ?_⟩) hHeld ?_ ?_
                rotate_left
                · rintro w' ⟨s0, s1, s2, s3, s4, s5, s6, s7⟩
                  go_simp
                  with_reducible rfl
                rotate_left
                · simp only [Act.put, List.setIfInBounds_toArray, List.set_cons_zero, List.set_cons_succ, i64_w, i32_w]
                  rfl
                refine one_ (i := 8) (N := some 25) #[true, true, true, true, true, true, true, true, true, false] rfl rfl (one_of HT_.out (by kernel_rfl)) (by decide) (fun K hK => ?_)
                refine goes_ Try.func188 (by kernel_rfl) rfl #[.agg #[.string ((rd_T178 l0 x5_1).f0), .int .i64 ((rd_T178 l0 x5_1).f1), .int .i64 ((rd_T178 l0 x5_1).f2), .bool ((rd_T178 l0 x5_1).f3)], .agg #[.string ((rd_T178 l1 x5_1).f0), .int .i64 ((rd_T178 l1 x5_1).f1), .int .i64 ((rd_T178 l1 x5_1).f2), .bool ((rd_T178 l1 x5_1).f3)]] (by rfl) rfl rfl gA ?_
                with_reducible refine (laws_eqRef.calls ((rd_T178 l0 x5_1).f0) ((rd_T178 l0 x5_1).f1) ((rd_T178 l0 x5_1).f2) ((rd_T178 l0 x5_1).f3) ((rd_T178 l1 x5_1).f0) ((rd_T178 l1 x5_1).f1) ((rd_T178 l1 x5_1).f2) ((rd_T178 l1 x5_1).f3) true _ A7.out).mono ?_
                rintro e w10 ⟨rfl, hb⟩
                refine ⟨_, rfl, ?_⟩
                have n0_ := Aside0.mk (below_step (w := w) bW hb)
                clear HB
                have HB := n0_
                clear n0_
                (try clear hb)
                (try clear hb2)
                (try clear hk)
                (try clear hi)
                refine hK.out _ _ ⟨((HB.out.cell (World.block_lt_of_cell? w _ hw673_0)).trans hw673_0), ((HB.out.cell (World.block_lt_of_cell? w _ hw673_1)).trans hw673_1), ((HB.out.cell (World.block_lt_of_cell? w _ hw673_2)).trans hw673_2), ((HB.out.cell (World.block_lt_of_cell? w _ hw673_3)).trans hw673_3), ((HB.out.cell (World.block_lt_of_cell? w _ hw674_0)).trans hw674_0), ((HB.out.cell (World.block_lt_of_cell? w _ hw674_1)).trans hw674_1), ((HB.out.cell (World.block_lt_of_cell? w _ hw674_2)).trans hw674_2), ((HB.out.cell (World.block_lt_of_cell? w _ hw674_3)).trans hw674_3)⟩ (fun hHeld => ?_)
                clear hK K
                refine norm_ (a' := ?_) ?_ ?_
                rotate_left
                · show Act.put _ (some 25) _ = _
                  simp only [Act.put, List.setIfInBounds_toArray, List.set_cons_zero, List.set_cons_succ, i64_w, i32_w]
                  rfl
                refine pure_ (i := 9) (N := some 26) (v := ?_) (a' := ?_) #[true, true, true, true, true, true, true, true, true, true] rfl rfl (any_of HT_.out (by kernel_rfl)) (fun _ _ _ h => h) (Or.inl ⟨by rfl, ?_⟩) ?_ ?_
                rotate_left
                · intro w'
                  go_simp
                  with_reducible rfl
                rotate_left
                · simp only [Act.put, List.setIfInBounds_toArray, List.set_cons_zero, List.set_cons_succ, i64_w, i32_w]
                  rfl
                refine done_ (done_of HT_.out (by kernel_rfl)) ?_
                try go_wp2
                go_roundg k1
                case measure => have := HK1.out; omega
                case rel => exact ⟨(wrap64 (x5_1 + 1)), vE, H', ⟨by have := HK1.out; omega⟩, ⟨bW⟩⟩
              · replace c8 := Bool.eq_false_iff.mpr c8
                subst c8
                have H1 : (some false) = some r := by rw [if_neg (show ¬ (false = true) by decide)] at H; exact H
                clear H
                have H := H1
                clear H1
                obtain rfl := Option.some.inj H
                try go_wp2
                have n0_ := Aside0.mk (below_drew1 HB.out)
                clear HB
                have HB := n0_
                clear n0_
                have p673 : 0 ≤ (x5_1 : Int) := odt
                have q673 : x5_1 < (l0.length : Int) := odt
                obtain ⟨ad673, e673, hx673_0, hx673_1, hx673_2, hx673_3⟩ := at_T178 HR0.out x5_1 p673 q673
                have hw673_3 := hx673_3
                have hw673_2 := hx673_2
                have hw673_1 := hx673_1
                have hw673_0 := hx673_0
                cases e673
                replace hx673_0 := (HB.out.cell (World.block_lt_of_cell? w _ hx673_0)).trans hx673_0
                replace hx673_1 := (HB.out.cell (World.block_lt_of_cell? w _ hx673_1)).trans hx673_1
                replace hx673_2 := (HB.out.cell (World.block_lt_of_cell? w _ hx673_2)).trans hx673_2
                replace hx673_3 := (HB.out.cell (World.block_lt_of_cell? w _ hx673_3)).trans hx673_3
                replace p673 := eq_true p673
                replace q673 := eq_true q673
                have p674 : 0 ≤ (x5_1 : Int) := odt
                have q674 : x5_1 < (l1.length : Int) := odt
                obtain ⟨ad674, e674, hx674_0, hx674_1, hx674_2, hx674_3⟩ := at_T178 HR1.out x5_1 p674 q674
                have hw674_3 := hx674_3
                have hw674_2 := hx674_2
                have hw674_1 := hx674_1
                have hw674_0 := hx674_0
                cases e674
                replace hx674_0 := (HB.out.cell (World.block_lt_of_cell? w _ hx674_0)).trans hx674_0
                replace hx674_1 := (HB.out.cell (World.block_lt_of_cell? w _ hx674_1)).trans hx674_1
                replace hx674_2 := (HB.out.cell (World.block_lt_of_cell? w _ hx674_2)).trans hx674_2
                replace hx674_3 := (HB.out.cell (World.block_lt_of_cell? w _ hx674_3)).trans hx674_3
                replace p674 := eq_true p674
                replace q674 := eq_true q674
                refine start_ (n := 10) (S := fun w' => w'.cell? (ad673.add ((x5_1).toNat * 4)) = some (.string ((rd_T178 l0 x5_1).f0)) ∧ w'.cell? ⟨(ad673.add ((x5_1).toNat * 4)).block, (ad673.add ((x5_1).toNat * 4)).off + 1, none⟩ = some (.int .i64 ((rd_T178 l0 x5_1).f1)) ∧ w'.cell? ⟨(ad673.add ((x5_1).toNat * 4)).block, (ad673.add ((x5_1).toNat * 4)).off + 2, none⟩ = some (.int .i64 ((rd_T178 l0 x5_1).f2)) ∧ w'.cell? ⟨(ad673.add ((x5_1).toNat * 4)).block, (ad673.add ((x5_1).toNat * 4)).off + 3, none⟩ = some (.bool ((rd_T178 l0 x5_1).f3)) ∧ w'.cell? (ad674.add ((x5_1).toNat * 4)) = some (.string ((rd_T178 l1 x5_1).f0)) ∧ w'.cell? ⟨(ad674.add ((x5_1).toNat * 4)).block, (ad674.add ((x5_1).toNat * 4)).off + 1, none⟩ = some (.int .i64 ((rd_T178 l1 x5_1).f1)) ∧ w'.cell? ⟨(ad674.add ((x5_1).toNat * 4)).block, (ad674.add ((x5_1).toNat * 4)).off + 2, none⟩ = some (.int .i64 ((rd_T178 l1 x5_1).f2)) ∧ w'.cell? ⟨(ad674.add ((x5_1).toNat * 4)).block, (ad674.add ((x5_1).toNat * 4)).off + 3, none⟩ = some (.bool ((rd_T178 l1 x5_1).f3))) (ds := []) #[false, false, false, false, false, false, false, false, false, false] (by kernel_rfl) rfl rfl ⟨((HB.out.cell (World.block_lt_of_cell? w _ hw673_0)).trans hw673_0), ((HB.out.cell (World.block_lt_of_cell? w _ hw673_1)).trans hw673_1), ((HB.out.cell (World.block_lt_of_cell? w _ hw673_2)).trans hw673_2), ((HB.out.cell (World.block_lt_of_cell? w _ hw673_3)).trans hw673_3), ((HB.out.cell (World.block_lt_of_cell? w _ hw674_0)).trans hw674_0), ((HB.out.cell (World.block_lt_of_cell? w _ hw674_1)).trans hw674_1), ((HB.out.cell (World.block_lt_of_cell? w _ hw674_2)).trans hw674_2), ((HB.out.cell (World.block_lt_of_cell? w _ hw674_3)).trans hw674_3)⟩ (fun hHeld => ?_); refine with_tabW laws_eqRefS.tab6 laws_eqRefS.bits6 (fun HT_ HW_ => ?_)
                generalize wr.drew = w11 at HB hx673_0 hx673_1 hx673_2 hx673_3 hx674_0 hx674_1 hx674_2 hx674_3 hHeld ⊢
                refine pure_ (i := 0) (N := some 17) (v := ?_) (a' := ?_) #[true, false, false, false, false, false, false, false, false, false] rfl rfl (any_of HT_.out (by kernel_rfl)) (fun _ _ _ h => h) (Or.inl ⟨by rfl, ?_⟩) ?_ ?_
                rotate_left
                · intro w'
                  go_simp
                  with_reducible rfl
                rotate_left
                · simp only [Act.put, List.setIfInBounds_toArray, List.set_cons_zero, List.set_cons_succ, i64_w, i32_w]
                  rfl
                refine pure_ (i := 1) (N := some 18) (v := ?_) (a' := ?_) #[true, true, false, false, false, false, false, false, false, false] rfl rfl (any_of HT_.out (by kernel_rfl)) (fun _ _ _ h => h) (Or.inl ⟨by rfl, ?_⟩) ?_ ?_
                rotate_left
                · intro w'
                  go_simp
                  with_reducible rfl
                rotate_left
                · simp only [Act.put, List.setIfInBounds_toArray, List.set_cons_zero, List.set_cons_succ, i64_w, i32_w]
                  rfl
                refine pure_ (i := 2) (N := some 19) (v := ?_) (a' := ?_) #[true, true, true, false, false, false, false, false, false, false] rfl rfl (any_of HT_.out (by kernel_rfl)) (fun _ _ _ h => h) (Or.inl ⟨by rfl, ?_⟩) ?_ ?_
                rotate_left
                · intro w'
                  go_simp
                  with_reducible rfl
                rotate_left
                · simp only [Act.put, List.setIfInBounds_toArray, List.set_cons_zero, List.set_cons_succ, i64_w, i32_w]
                  rfl
                refine pure_ (i := 4) (N := some 21) (v := ?_) (a' := ?_) #[true, true, true, false, true, false, false, false, false, false] rfl rfl (any_of HT_.out (by kernel_rfl)) (fun _ _ _ h => h) (Or.inl ⟨by rfl, ?_⟩) ?_ ?_
                rotate_left
                · intro w'
                  go_simp
                  with_reducible rfl
                rotate_left
                · simp only [Act.put, List.setIfInBounds_toArray, List.set_cons_zero, List.set_cons_succ, i64_w, i32_w]
                  rfl
                refine pure_ (i := 5) (N := some 22) (v := ?_) (a' := ?_) #[true, true, true, false, true, true, false, false, false, false] rfl rfl (any_of HT_.out (by kernel_rfl)) (fun _ _ _ h => h) (Or.inl ⟨by rfl, ?_⟩) ?_ ?_
                rotate_left
                · intro w'
                  go_simp
                  with_reducible rfl
                rotate_left
                · simp only [Act.put, List.setIfInBounds_toArray, List.set_cons_zero, List.set_cons_succ, i64_w, i32_w]
                  rfl
                refine pure_ (i := 6) (N := some 23) (v := ?_) (a' := ?_) #[true, true, true, false, true, true, true, false, false, false] rfl rfl (any_of HT_.out (by kernel_rfl)) (fun _ _ _ h => h) (Or.inl ⟨by rfl, ?_⟩) ?_ ?_
                rotate_left
                · intro w'
                  go_simp
                  with_reducible rfl
                rotate_left
                · simp only [Act.put, List.setIfInBounds_toArray, List.set_cons_zero, List.set_cons_succ, i64_w, i32_w]
                  rfl
                refine take_ (i := 3) (N := some 20) (v := ?_) (a' := ?_) #[true, true, true, true, true, true, true, false, false, false] rfl rfl (take_ofW HT_.out HW_.out (by kernel_rfl)) (fun _ _ _ h => h) (Or.inl ⟨by rfl, ?_⟩) hHeld ?_ ?_
                rotate_left
                · rintro w' ⟨s0, s1, s2, s3, s4, s5, s6, s7⟩
                  go_simp
                  with_reducible rfl
                rotate_left
                · simp only [Act.put, List.setIfInBounds_toArray, List.set_cons_zero, List.set_cons_succ, i64_w, i32_w]
                  rfl
                refine take_ (i := 7) (N := some 24) (v := ?_) (a' := ?_) #[true, true, true, true, true, true, true, true, false, false] rfl rfl (take_ofW HT_.out HW_.out (by kernel_rfl)) (fun _ _ _ h => h) (Or.inl ⟨by rfl, ?_⟩) hHeld ?_ ?_
                rotate_left
                · rintro w' ⟨s0, s1, s2, s3, s4, s5, s6, s7⟩
                  go_simp
                  with_reducible rfl
                rotate_left
                · simp only [Act.put, List.setIfInBounds_toArray, List.set_cons_zero, List.set_cons_succ, i64_w, i32_w]
                  rfl
                refine one_ (i := 8) (N := some 25) #[true, true, true, true, true, true, true, true, true, false] rfl rfl (one_of HT_.out (by kernel_rfl)) (by decide) (fun K hK => ?_)
                refine goes_ Try.func188 (by kernel_rfl) rfl #[.agg #[.string ((rd_T178 l0 x5_1).f0), .int .i64 ((rd_T178 l0 x5_1).f1), .int .i64 ((rd_T178 l0 x5_1).f2), .bool ((rd_T178 l0 x5_1).f3)], .agg #[.string ((rd_T178 l1 x5_1).f0), .int .i64 ((rd_T178 l1 x5_1).f1), .int .i64 ((rd_T178 l1 x5_1).f2), .bool ((rd_T178 l1 x5_1).f3)]] (by rfl) rfl rfl gA ?_
                with_reducible refine (laws_eqRef.calls ((rd_T178 l0 x5_1).f0) ((rd_T178 l0 x5_1).f1) ((rd_T178 l0 x5_1).f2) ((rd_T178 l0 x5_1).f3) ((rd_T178 l1 x5_1).f0) ((rd_T178 l1 x5_1).f1) ((rd_T178 l1 x5_1).f2) ((rd_T178 l1 x5_1).f3) false _ A7.out).mono ?_
                rintro e w12 ⟨rfl, hb⟩
                refine ⟨_, rfl, ?_⟩
                have n0_ := Aside0.mk (below_step (w := w) bW hb)
                clear HB
                have HB := n0_
                clear n0_
                (try clear hb)
                (try clear hb2)
                (try clear hk)
                (try clear hi)
                refine hK.out _ _ ⟨((HB.out.cell (World.block_lt_of_cell? w _ hw673_0)).trans hw673_0), ((HB.out.cell (World.block_lt_of_cell? w _ hw673_1)).trans hw673_1), ((HB.out.cell (World.block_lt_of_cell? w _ hw673_2)).trans hw673_2), ((HB.out.cell (World.block_lt_of_cell? w _ hw673_3)).trans hw673_3), ((HB.out.cell (World.block_lt_of_cell? w _ hw674_0)).trans hw674_0), ((HB.out.cell (World.block_lt_of_cell? w _ hw674_1)).trans hw674_1), ((HB.out.cell (World.block_lt_of_cell? w _ hw674_2)).trans hw674_2), ((HB.out.cell (World.block_lt_of_cell? w _ hw674_3)).trans hw674_3)⟩ (fun hHeld => ?_)
                clear hK K
                refine norm_ (a' := ?_) ?_ ?_
                rotate_left
                · show Act.put _ (some 25) _ = _
                  simp only [Act.put, List.setIfInBounds_toArray, List.set_cons_zero, List.set_cons_succ, i64_w, i32_w]
                  rfl
                refine pure_ (i := 9) (N := some 26) (v := ?_) (a' := ?_) #[true, true, true, true, true, true, true, true, true, true] rfl rfl (any_of HT_.out (by kernel_rfl)) (fun _ _ _ h => h) (Or.inl ⟨by rfl, ?_⟩) ?_ ?_
                rotate_left
                · intro w'
                  go_simp
                  with_reducible rfl
                rotate_left
                · simp only [Act.put, List.setIfInBounds_toArray, List.set_cons_zero, List.set_cons_succ, i64_w, i32_w]
                  rfl
                refine done_ (done_of HT_.out (by kernel_rfl)) ?_
                try go_wp2
                go_ret
                exact ⟨rE, bW⟩
            · rw [if_neg c6] at H
              exact absurd H (by simp)
          · rw [if_neg c5] at H
            exact absurd H (by simp)
        · rw [if_neg c4] at H
          have c4b0 : decide (x5_1 < (l0.length : Int)) = false := decide_eq_false c4
          clear c4
          obtain rfl := Option.some.inj H
          go_wp2
          go_ret
          exact ⟨rE, bW⟩
  · rw [if_neg c3] at H
    have c3b0 : ((l0.length : Int) == (l1.length : Int)) = false := beq_eq_false_iff_ne.mpr c3
    have c3b1 : ((l0.length : Int) != (l1.length : Int)) = true := bne_iff_ne.mpr c3
    have c3b2 : (l0.length == l1.length) = false := by first | simpa using c3 | (simp at c3 ⊢; omega)
    obtain rfl := Option.some.inj H
    go_enter Try.func120, Try.ntmps120
    go_wp2
    go_ret
    exact ⟨rE, bW⟩
end Go.Proofs.Ytcpljigliklgcaa.Q
end

section
namespace Go.Proofs.Ytcpljigliklgcaa.Q
open Go.RowKit Go.Proofs.YtcpljigliklgcaaW.PrintWords Go.Proofs.YtcpljigliklgcaaW.PrintLast Go.Proofs.YtcpljigliklgcaaW.PrintMore
attribute [local go_sem] max2_int min2_int max_two min_two max_three min_three max_four min_four   -- for this text's walks alone
set_option linter.unusedVariables false
set_option linter.unusedSimpArgs false
attribute [local go_sem] bin_leq bin_gtr bin_geq
def laws_eqBase.f (k : Nat) (l0_0 : List (S118)) (l0_1 : List (S178)) (l1_0 : List (S118)) (l1_1 : List (S178)) : Option (Bool) := (laws_eqCommitS.f k l0_0 l1_0).bind fun t678 => (if t678 = true then ((laws_eqRefS.f k l0_1 l1_1).bind fun t679 => (if t679 = true then (some true) else (some false))) else (some false))
set_option maxHeartbeats 8000000 in
set_option maxRecDepth 100000 in
theorem laws_eqBase.calls (k : Nat) (A0_0 : Option Addr) (c0_0 : Nat) (l0_0 : List (S118)) (A0_1 : Option Addr) (c0_1 : Nat) (l0_1 : List (S178)) (A1_0 : Option Addr) (c1_0 : Nat) (l1_0 : List (S118)) (A1_1 : Option Addr) (c1_1 : Nat) (l1_1 : List (S178)) (r : Bool) (w : World) (hr0_0 : Kd.C k118 w A0_0 l0_0.length l0_0) (hc0_0 : l0_0.length ≤ c0_0) (hr0_1 : Kd.C k178 w A0_1 l0_1.length l0_1) (hc0_1 : l0_1.length ≤ c0_1) (hr1_0 : Kd.C k118 w A1_0 l1_0.length l1_0) (hc1_0 : l1_0.length ≤ c1_0) (hr1_1 : Kd.C k178 w A1_1 l1_1.length l1_1) (hc1_1 : l1_1.length ≤ c1_1) (h : laws_eqBase.f k l0_0 l0_1 l1_0 l1_1 = some r) :
    Calls Try.prog 44 #[.agg #[.slice A0_0 l0_0.length c0_0, .slice A0_1 l0_1.length c0_1], .agg #[.slice A1_0 l1_0.length c1_0, .slice A1_1 l1_1.length c1_1]] w fun e w' => e = .returned (.bool r) ∧ Below w.heap.size w w' := by
  have hu66 := Try.underlying66
  have HR0_0 := Aside0.mk hr0_0
  have HC0_0 := Aside0.mk hc0_0
  clear hr0_0 hc0_0
  have HR0_1 := Aside0.mk hr0_1
  have HC0_1 := Aside0.mk hc0_1
  clear hr0_1 hc0_1
  have HR1_0 := Aside0.mk hr1_0
  have HC1_0 := Aside0.mk hc1_0
  clear hr1_0 hc1_0
  have HR1_1 := Aside0.mk hr1_1
  have HC1_1 := Aside0.mk hc1_1
  clear hr1_1 hc1_1
  have HB := Aside0.mk (Below.refl w.heap.size w)
  have H : ((laws_eqCommitS.f k l0_0 l1_0).bind fun t678 => (if t678 = true then ((laws_eqRefS.f k l0_1 l1_1).bind fun t679 => (if t679 = true then (some true) else (some false))) else (some false))) = some r := h
  clear h
  replace H := Option.bind_eq_some_iff.mp H
  obtain ⟨t678, A30, H⟩ := H
  replace H : (if t678 = true then ((laws_eqRefS.f k l0_1 l1_1).bind fun t679 => (if t679 = true then (some true) else (some false))) else (some false)) = some r := H
  have A3 := Aside0.mk A30
  clear A30
  by_cases c4 : t678 = true
  · subst c4
    have H1 : ((laws_eqRefS.f k l0_1 l1_1).bind fun t679 => (if t679 = true then (some true) else (some false))) = some r := by rw [if_pos rfl] at H; exact H
    clear H
    have H := H1
    clear H1
    replace H := Option.bind_eq_some_iff.mp H
    obtain ⟨t679, A50, H⟩ := H
    replace H : (if t679 = true then (some true) else (some false)) = some r := H
    have A5 := Aside0.mk A50
    clear A50
    by_cases c6 : t679 = true
    · subst c6
      have H1 : (some true) = some r := by rw [if_pos rfl] at H; exact H
      clear H
      have H := H1
      clear H1
      obtain rfl := Option.some.inj H
      go_enter Try.func44, Try.ntmps44
      go_wp2_with (first | ((with_reducible refine gate_dst (N := 2) rfl ?_); refine bE (N := 2) (cs := #[.slice A0_0 l0_0.length c0_0, .slice A0_1 l0_1.length c0_1]) (t := 66) ?_; intro gb676 hg w7 hbox hb; have n0_ := Aside0.mk (below_step (w := w) bW hb); have n1_ := Aside0.mk (hbox); have n2_ := Aside0.mk (gS (w := w) hg); have n3_ := n2_; clear HB; have HB := n0_; have BK676 := n1_; have GW676 := n2_; have GE676 := n3_; clear n0_ n1_ n2_ n3_; clear hb hbox hg) | ((with_reducible refine gate_dst (N := 3) rfl ?_); refine bE (N := 3) (cs := #[.slice A1_0 l1_0.length c1_0, .slice A1_1 l1_1.length c1_1]) (t := 66) ?_; intro gb677 hg w8 hbox hb; have n0_ := Aside0.mk (kb BK676 hb); have n1_ := Aside0.mk (below_step (w := w) bW hb); have n2_ := Aside0.mk (hbox); have n3_ := Aside0.mk (gS (w := w) hg); have n4_ := n3_; have n5_ := Aside0.mk (nL BK676 hg); have n6_ := Aside0.mk (nG BK676 hg); clear BK676; clear HB; have BK676 := n0_; have HB := n1_; have BK677 := n2_; have GW677 := n3_; have GE677 := n4_; have NB676_677 := n5_; have NB677_676 := n6_; clear n0_ n1_ n2_ n3_ n4_ n5_ n6_; clear hb hbox hg; have hnb9 := NB676_677.out; have hnc9 := NB677_676.out; obtain ⟨hcz10_0, hcz10_1⟩ := cz2 BK676; obtain ⟨hfz10_0, hfz10_1⟩ := fz2 BK676; obtain ⟨hcz11_0, hcz11_1⟩ := cz2 BK677; obtain ⟨hfz11_0, hfz11_1⟩ := fz2 BK677) | ((with_reducible refine gate_callee (f := 119) rfl ?_); refine goesL_ (some 9) rfl rfl Try.func119 (by kernel_rfl) rfl #[.slice A0_0 l0_0.length c0_0, .slice A1_0 l1_0.length c1_0] rfl gA ?_; (with_reducible refine (laws_eqCommitS.calls k _ _ l0_0 _ _ l1_0 true _ ?side1 ?side2 ?side3 ?side4 A3.out).mono ?_); (case side1 => exact cB HR0_0); (case side2 => exact HC0_0.out); (case side3 => exact cB HR1_0); (case side4 => exact HC1_0.out); rintro e w12 ⟨rfl, hb⟩; refine ⟨_, rfl, ?_⟩; have n0_ := Aside0.mk (kb BK676 hb); have n1_ := Aside0.mk (kb BK677 hb); have n2_ := Aside0.mk (below_step (w := w) bW hb); clear BK676; clear BK677; clear HB; have BK676 := n0_; have BK677 := n1_; have HB := n2_; clear n0_ n1_ n2_; (try clear hb); (try clear hb2); (try clear hk); (try clear hi); obtain ⟨hcz13_0, hcz13_1⟩ := cz2 BK676; obtain ⟨hfz13_0, hfz13_1⟩ := fz2 BK676; obtain ⟨hcz14_0, hcz14_1⟩ := cz2 BK677; obtain ⟨hfz14_0, hfz14_1⟩ := fz2 BK677) | ((with_reducible refine gate_callee (f := 120) rfl ?_); refine goesL_ (some 15) rfl rfl Try.func120 (by kernel_rfl) rfl #[.slice A0_1 l0_1.length c0_1, .slice A1_1 l1_1.length c1_1] rfl gA ?_; (with_reducible refine (laws_eqRefS.calls k _ _ l0_1 _ _ l1_1 true _ ?side1 ?side2 ?side3 ?side4 A5.out).mono ?_); (case side1 => exact cB HR0_1); (case side2 => exact HC0_1.out); (case side3 => exact cB HR1_1); (case side4 => exact HC1_1.out); rintro e w15 ⟨rfl, hb⟩; refine ⟨_, rfl, ?_⟩; have n0_ := Aside0.mk (kb BK676 hb); have n1_ := Aside0.mk (kb BK677 hb); have n2_ := Aside0.mk (below_step (w := w) bW hb); clear BK676; clear BK677; clear HB; have BK676 := n0_; have BK677 := n1_; have HB := n2_; clear n0_ n1_ n2_; (try clear hb); (try clear hb2); (try clear hk); (try clear hi)))
      go_ret
      exact ⟨rE, bW⟩
    · replace c6 := Bool.eq_false_iff.mpr c6
      subst c6
      have H1 : (some false) = some r := by rw [if_neg (show ¬ (false = true) by decide)] at H; exact H
      clear H
      have H := H1
      clear H1
      obtain rfl := Option.some.inj H
      go_enter Try.func44, Try.ntmps44
      go_wp2_with (first | ((with_reducible refine gate_dst (N := 2) rfl ?_); refine bE (N := 2) (cs := #[.slice A0_0 l0_0.length c0_0, .slice A0_1 l0_1.length c0_1]) (t := 66) ?_; intro gb676 hg w16 hbox hb; have n0_ := Aside0.mk (below_step (w := w) bW hb); have n1_ := Aside0.mk (hbox); have n2_ := Aside0.mk (gS (w := w) hg); have n3_ := n2_; clear HB; have HB := n0_; have BK676 := n1_; have GW676 := n2_; have GE676 := n3_; clear n0_ n1_ n2_ n3_; clear hb hbox hg) | ((with_reducible refine gate_dst (N := 3) rfl ?_); refine bE (N := 3) (cs := #[.slice A1_0 l1_0.length c1_0, .slice A1_1 l1_1.length c1_1]) (t := 66) ?_; intro gb677 hg w17 hbox hb; have n0_ := Aside0.mk (kb BK676 hb); have n1_ := Aside0.mk (below_step (w := w) bW hb); have n2_ := Aside0.mk (hbox); have n3_ := Aside0.mk (gS (w := w) hg); have n4_ := n3_; have n5_ := Aside0.mk (nL BK676 hg); have n6_ := Aside0.mk (nG BK676 hg); clear BK676; clear HB; have BK676 := n0_; have HB := n1_; have BK677 := n2_; have GW677 := n3_; have GE677 := n4_; have NB676_677 := n5_; have NB677_676 := n6_; clear n0_ n1_ n2_ n3_ n4_ n5_ n6_; clear hb hbox hg; have hnb18 := NB676_677.out; have hnc18 := NB677_676.out; obtain ⟨hcz19_0, hcz19_1⟩ := cz2 BK676; obtain ⟨hfz19_0, hfz19_1⟩ := fz2 BK676; obtain ⟨hcz20_0, hcz20_1⟩ := cz2 BK677; obtain ⟨hfz20_0, hfz20_1⟩ := fz2 BK677) | ((with_reducible refine gate_callee (f := 119) rfl ?_); refine goesL_ (some 9) rfl rfl Try.func119 (by kernel_rfl) rfl #[.slice A0_0 l0_0.length c0_0, .slice A1_0 l1_0.length c1_0] rfl gA ?_; (with_reducible refine (laws_eqCommitS.calls k _ _ l0_0 _ _ l1_0 true _ ?side1 ?side2 ?side3 ?side4 A3.out).mono ?_); (case side1 => exact cB HR0_0); (case side2 => exact HC0_0.out); (case side3 => exact cB HR1_0); (case side4 => exact HC1_0.out); rintro e w21 ⟨rfl, hb⟩; refine ⟨_, rfl, ?_⟩; have n0_ := Aside0.mk (kb BK676 hb); have n1_ := Aside0.mk (kb BK677 hb); have n2_ := Aside0.mk (below_step (w := w) bW hb); clear BK676; clear BK677; clear HB; have BK676 := n0_; have BK677 := n1_; have HB := n2_; clear n0_ n1_ n2_; (try clear hb); (try clear hb2); (try clear hk); (try clear hi); obtain ⟨hcz22_0, hcz22_1⟩ := cz2 BK676; obtain ⟨hfz22_0, hfz22_1⟩ := fz2 BK676; obtain ⟨hcz23_0, hcz23_1⟩ := cz2 BK677; obtain ⟨hfz23_0, hfz23_1⟩ := fz2 BK677) | ((with_reducible refine gate_callee (f := 120) rfl ?_); refine goesL_ (some 15) rfl rfl Try.func120 (by kernel_rfl) rfl #[.slice A0_1 l0_1.length c0_1, .slice A1_1 l1_1.length c1_1] rfl gA ?_; (with_reducible refine (laws_eqRefS.calls k _ _ l0_1 _ _ l1_1 false _ ?side1 ?side2 ?side3 ?side4 A5.out).mono ?_); (case side1 => exact cB HR0_1); (case side2 => exact HC0_1.out); (case side3 => exact cB HR1_1); (case side4 => exact HC1_1.out); rintro e w24 ⟨rfl, hb⟩; refine ⟨_, rfl, ?_⟩; have n0_ := Aside0.mk (kb BK676 hb); have n1_ := Aside0.mk (kb BK677 hb); have n2_ := Aside0.mk (below_step (w := w) bW hb); clear BK676; clear BK677; clear HB; have BK676 := n0_; have BK677 := n1_; have HB := n2_; clear n0_ n1_ n2_; (try clear hb); (try clear hb2); (try clear hk); (try clear hi)))
      go_ret
      exact ⟨rE, bW⟩
  · replace c4 := Bool.eq_false_iff.mpr c4
    subst c4
    have H1 : (some false) = some r := by rw [if_neg (show ¬ (false = true) by decide)] at H; exact H
    clear H
    have H := H1
    clear H1
    obtain rfl := Option.some.inj H
    go_enter Try.func44, Try.ntmps44
    go_wp2_with (first | ((with_reducible refine gate_dst (N := 2) rfl ?_); refine bE (N := 2) (cs := #[.slice A0_0 l0_0.length c0_0, .slice A0_1 l0_1.length c0_1]) (t := 66) ?_; intro gb676 hg w25 hbox hb; have n0_ := Aside0.mk (below_step (w := w) bW hb); have n1_ := Aside0.mk (hbox); have n2_ := Aside0.mk (gS (w := w) hg); have n3_ := n2_; clear HB; have HB := n0_; have BK676 := n1_; have GW676 := n2_; have GE676 := n3_; clear n0_ n1_ n2_ n3_; clear hb hbox hg) | ((with_reducible refine gate_dst (N := 3) rfl ?_); refine bE (N := 3) (cs := #[.slice A1_0 l1_0.length c1_0, .slice A1_1 l1_1.length c1_1]) (t := 66) ?_; intro gb677 hg w26 hbox hb; have n0_ := Aside0.mk (kb BK676 hb); have n1_ := Aside0.mk (below_step (w := w) bW hb); have n2_ := Aside0.mk (hbox); have n3_ := Aside0.mk (gS (w := w) hg); have n4_ := n3_; have n5_ := Aside0.mk (nL BK676 hg); have n6_ := Aside0.mk (nG BK676 hg); clear BK676; clear HB; have BK676 := n0_; have HB := n1_; have BK677 := n2_; have GW677 := n3_; have GE677 := n4_; have NB676_677 := n5_; have NB677_676 := n6_; clear n0_ n1_ n2_ n3_ n4_ n5_ n6_; clear hb hbox hg; have hnb27 := NB676_677.out; have hnc27 := NB677_676.out; obtain ⟨hcz28_0, hcz28_1⟩ := cz2 BK676; obtain ⟨hfz28_0, hfz28_1⟩ := fz2 BK676; obtain ⟨hcz29_0, hcz29_1⟩ := cz2 BK677; obtain ⟨hfz29_0, hfz29_1⟩ := fz2 BK677) | ((with_reducible refine gate_callee (f := 119) rfl ?_); refine goesL_ (some 9) rfl rfl Try.func119 (by kernel_rfl) rfl #[.slice A0_0 l0_0.length c0_0, .slice A1_0 l1_0.length c1_0] rfl gA ?_; (with_reducible refine (laws_eqCommitS.calls k _ _ l0_0 _ _ l1_0 false _ ?side1 ?side2 ?side3 ?side4 A3.out).mono ?_); (case side1 => exact cB HR0_0); (case side2 => exact HC0_0.out); (case side3 => exact cB HR1_0); (case side4 => exact HC1_0.out); rintro e w30 ⟨rfl, hb⟩; refine ⟨_, rfl, ?_⟩; have n0_ := Aside0.mk (kb BK676 hb); have n1_ := Aside0.mk (kb BK677 hb); have n2_ := Aside0.mk (below_step (w := w) bW hb); clear BK676; clear BK677; clear HB; have BK676 := n0_; have BK677 := n1_; have HB := n2_; clear n0_ n1_ n2_; (try clear hb); (try clear hb2); (try clear hk); (try clear hi)))
    go_ret
    exact ⟨rE, bW⟩
end Go.Proofs.Ytcpljigliklgcaa.Q
end

section
namespace Go.Proofs.Ytcpljigliklgcaa.Q
open Go.RowKit Go.Proofs.YtcpljigliklgcaaW.PrintWords Go.Proofs.YtcpljigliklgcaaW.PrintLast Go.Proofs.YtcpljigliklgcaaW.PrintMore
attribute [local go_sem] max2_int min2_int max_two min_two max_three min_three max_four min_four   -- for this text's walks alone
set_option linter.unusedVariables false
set_option linter.unusedSimpArgs false
attribute [local go_sem] bin_leq bin_gtr bin_geq
def laws_FnExactReadSnap.j0 : Nat → Bool → List (S209) → List (S211) → List (S118) → List (S178) → Option (Bool)
  | 0, _, _, _, _, _ => none
  | k + 1, x52, x681000, x681001, x701000, x701001 => if x52 = true then (some false) else ((laws_toBase.f k x681000 x681001).bind fun bt705 => ((laws_eqBase.f k x701000 x701001 bt705.1 bt705.2).bind fun t711 => (if t711 = true then (some true) else (some false))))
def laws_FnExactReadSnap.f (k : Nat) (l0_0 : List (S209)) (l0_1 : List (S211)) (a1_0 : ByteArray) (a1_1 : Int) (a2 : ByteArray) : Option (Bool) := if (a2.size : Int) > 1048576 then (some true) else ((laws_szBase.f k l0_0 l0_1 1048576).bind fun t682 => (if t682 < 0 then (some true) else ((laws_szSnap.f a1_0 a1_1 t682).bind fun t683 => (if t683 < 0 then (some true) else ((laws_toBase.f k l0_0 l0_1).bind fun bt684 => ((laws_toSnap.f a1_0 a1_1).bind fun bt690 => ((spec_ReadSnap.f k bt684.1 bt684.2 bt690.1 bt690.2 a2).bind fun bt692 => ((laws_toBase.f k l0_0 l0_1).bind fun bt694 => ((laws_toSnap.f a1_0 a1_1).bind fun bt701 => ((impl_ReadSnap.f k bt694.1 bt694.2 bt701.1 bt701.2 a2).bind fun bt703 => (if bt703.1 = bt692.1 then (laws_FnExactReadSnap.j0 k (bt703.2 != bt692.2) l0_0 l0_1 bt694.1 bt694.2) else (laws_FnExactReadSnap.j0 k true l0_0 l0_1 bt694.1 bt694.2))))))))))))
def laws_FnExactReadSnap.T10 : Bool × List (List Nat × List Nat) := (true, [([], []), ([0], [0]), ([], []), ([2, 1], [2]), ([], []), ([1, 3, 4, 3], [1, 3, 4]), ([5], [5]), ([6], [6]), ([6], [6]), ([7, 5, 0, 1, 2, 3, 4, 5, 6, 7], [7]), ([8, 9, 0, 1, 2, 3, 4, 5, 6, 7, 8, 9], [8])])
def laws_FnExactReadSnap.B10 : List Nat := [0, 1, 0, 7, 0, 31, 63, 127, 127, 255, 1023]
theorem laws_FnExactReadSnap.tab10 : rtab .any (opsOf Try.f8 10) = laws_FnExactReadSnap.T10 := by kernel_rfl
theorem laws_FnExactReadSnap.bits10 : waitsOk laws_FnExactReadSnap.T10.2 laws_FnExactReadSnap.B10 = true := by kernel_rfl
def laws_FnExactReadSnap.T12 : Bool × List (List Nat × List Nat) := (true, [([], []), ([], []), ([1], [1]), ([], []), ([0, 2, 3, 2], [0, 2, 3]), ([4], [4]), ([5], [5]), ([5], [5]), ([6, 4, 0, 1, 2, 3, 4, 5, 6], [6]), ([7, 8, 0, 1, 2, 3, 4, 5, 6, 7, 8], [7])])
def laws_FnExactReadSnap.B12 : List Nat := [0, 0, 2, 0, 15, 31, 63, 63, 127, 511]
theorem laws_FnExactReadSnap.tab12 : rtab .any (opsOf Try.f8 12) = laws_FnExactReadSnap.T12 := by kernel_rfl
theorem laws_FnExactReadSnap.bits12 : waitsOk laws_FnExactReadSnap.T12.2 laws_FnExactReadSnap.B12 = true := by kernel_rfl
set_option maxHeartbeats 8000000 in
set_option maxRecDepth 100000 in
theorem laws_FnExactReadSnap.calls (k : Nat) (A0_0 : Option Addr) (c0_0 : Nat) (l0_0 : List (S209)) (A0_1 : Option Addr) (c0_1 : Nat) (l0_1 : List (S211)) (a1_0 : ByteArray) (a1_1 : Int) (a2 : ByteArray) (w : World) (hr0_0 : Kd.C k209 w A0_0 l0_0.length l0_0) (hc0_0 : l0_0.length ≤ c0_0) (hr0_1 : Kd.C k211 w A0_1 l0_1.length l0_1) (hc0_1 : l0_1.length ≤ c0_1) (h : laws_FnExactReadSnap.f k l0_0 l0_1 a1_0 a1_1 a2 = some true) :
    Calls Try.prog 8 #[.agg #[.slice A0_0 l0_0.length c0_0, .slice A0_1 l0_1.length c0_1], .agg #[.string a1_0, .int .i64 a1_1], .string a2] w fun e w' => e = .returned (.bool true) ∧ Below w.heap.size w w' := by
  have hu57 := Try.underlying57
  have hu59 := Try.underlying59
  have hu66 := Try.underlying66
  have HR0_0 := Aside0.mk hr0_0
  have HC0_0 := Aside0.mk hc0_0
  clear hr0_0 hc0_0
  have HR0_1 := Aside0.mk hr0_1
  have HC0_1 := Aside0.mk hc0_1
  clear hr0_1 hc0_1
  have HB := Aside0.mk (Below.refl w.heap.size w)
  have H : (if (a2.size : Int) > 1048576 then (some true) else ((laws_szBase.f k l0_0 l0_1 1048576).bind fun t682 => (if t682 < 0 then (some true) else ((laws_szSnap.f a1_0 a1_1 t682).bind fun t683 => (if t683 < 0 then (some true) else ((laws_toBase.f k l0_0 l0_1).bind fun bt684 => ((laws_toSnap.f a1_0 a1_1).bind fun bt690 => ((spec_ReadSnap.f k bt684.1 bt684.2 bt690.1 bt690.2 a2).bind fun bt692 => ((laws_toBase.f k l0_0 l0_1).bind fun bt694 => ((laws_toSnap.f a1_0 a1_1).bind fun bt701 => ((impl_ReadSnap.f k bt694.1 bt694.2 bt701.1 bt701.2 a2).bind fun bt703 => (if bt703.1 = bt692.1 then (laws_FnExactReadSnap.j0 k (bt703.2 != bt692.2) l0_0 l0_1 bt694.1 bt694.2) else (laws_FnExactReadSnap.j0 k true l0_0 l0_1 bt694.1 bt694.2))))))))))))) = some true := h
  clear h
  by_cases c4 : (a2.size : Int) > 1048576
  · rw [if_pos c4] at H
    have c4b0 : decide (1048576 < (a2.size : Int)) = true := decide_eq_true c4
    have c4b1 : decide (1048576 < a2.size) = true := decide_eq_true (by omega)
    clear c4
    clear H
    go_enter Try.func8, Try.ntmps8
    go_wp2_with (first | ((with_reducible refine gate_dst (N := 3) rfl ?_); refine bE (N := 3) (cs := #[.slice A0_0 l0_0.length c0_0, .slice A0_1 l0_1.length c0_1]) (t := 57) ?_; intro gb680 hg w5 hbox hb; have n0_ := Aside0.mk (below_step (w := w) bW hb); have n1_ := Aside0.mk (hbox); have n2_ := Aside0.mk (gS (w := w) hg); have n3_ := n2_; clear HB; have HB := n0_; have BK680 := n1_; have GW680 := n2_; have GE680 := n3_; clear n0_ n1_ n2_ n3_; clear hb hbox hg) | ((with_reducible refine gate_dst (N := 4) rfl ?_); refine bE (N := 4) (cs := #[.string a1_0, .int .i64 a1_1]) (t := 59) ?_; intro gb681 hg w6 hbox hb; have n0_ := Aside0.mk (kb BK680 hb); have n1_ := Aside0.mk (below_step (w := w) bW hb); have n2_ := Aside0.mk (hbox); have n3_ := Aside0.mk (gS (w := w) hg); have n4_ := n3_; have n5_ := Aside0.mk (nL BK680 hg); have n6_ := Aside0.mk (nG BK680 hg); clear BK680; clear HB; have BK680 := n0_; have HB := n1_; have BK681 := n2_; have GW681 := n3_; have GE681 := n4_; have NB680_681 := n5_; have NB681_680 := n6_; clear n0_ n1_ n2_ n3_ n4_ n5_ n6_; clear hb hbox hg))
    go_ret
    exact ⟨rE, bW⟩
  · rw [if_neg c4] at H
    have c4b0 : decide (1048576 < (a2.size : Int)) = false := decide_eq_false c4
    have c4b1 : decide (1048576 < a2.size) = false := decide_eq_false (by omega)
    clear c4
    replace H := Option.bind_eq_some_iff.mp H
    obtain ⟨t682, A70, H⟩ := H
    replace H : (if t682 < 0 then (some true) else ((laws_szSnap.f a1_0 a1_1 t682).bind fun t683 => (if t683 < 0 then (some true) else ((laws_toBase.f k l0_0 l0_1).bind fun bt684 => ((laws_toSnap.f a1_0 a1_1).bind fun bt690 => ((spec_ReadSnap.f k bt684.1 bt684.2 bt690.1 bt690.2 a2).bind fun bt692 => ((laws_toBase.f k l0_0 l0_1).bind fun bt694 => ((laws_toSnap.f a1_0 a1_1).bind fun bt701 => ((impl_ReadSnap.f k bt694.1 bt694.2 bt701.1 bt701.2 a2).bind fun bt703 => (if bt703.1 = bt692.1 then (laws_FnExactReadSnap.j0 k (bt703.2 != bt692.2) l0_0 l0_1 bt694.1 bt694.2) else (laws_FnExactReadSnap.j0 k true l0_0 l0_1 bt694.1 bt694.2))))))))))) = some true := H
    have A7 := Aside0.mk A70
    clear A70
    by_cases c8 : t682 < 0
    · rw [if_pos c8] at H
      have c8b0 : decide (t682 < 0) = true := decide_eq_true c8
      clear c8
      clear H
      go_enter Try.func8, Try.ntmps8
      go_wp2_with (first | ((with_reducible refine gate_dst (N := 3) rfl ?_); refine bE (N := 3) (cs := #[.slice A0_0 l0_0.length c0_0, .slice A0_1 l0_1.length c0_1]) (t := 57) ?_; intro gb680 hg w9 hbox hb; have n0_ := Aside0.mk (below_step (w := w) bW hb); have n1_ := Aside0.mk (hbox); have n2_ := Aside0.mk (gS (w := w) hg); have n3_ := n2_; clear HB; have HB := n0_; have BK680 := n1_; have GW680 := n2_; have GE680 := n3_; clear n0_ n1_ n2_ n3_; clear hb hbox hg) | ((with_reducible refine gate_dst (N := 4) rfl ?_); refine bE (N := 4) (cs := #[.string a1_0, .int .i64 a1_1]) (t := 59) ?_; intro gb681 hg w10 hbox hb; have n0_ := Aside0.mk (kb BK680 hb); have n1_ := Aside0.mk (below_step (w := w) bW hb); have n2_ := Aside0.mk (hbox); have n3_ := Aside0.mk (gS (w := w) hg); have n4_ := n3_; have n5_ := Aside0.mk (nL BK680 hg); have n6_ := Aside0.mk (nG BK680 hg); clear BK680; clear HB; have BK680 := n0_; have HB := n1_; have BK681 := n2_; have GW681 := n3_; have GE681 := n4_; have NB680_681 := n5_; have NB681_680 := n6_; clear n0_ n1_ n2_ n3_ n4_ n5_ n6_; clear hb hbox hg; have hnb11 := NB680_681.out; have hnc11 := NB681_680.out; obtain ⟨hcz12_0, hcz12_1⟩ := cz2 BK680; obtain ⟨hfz12_0, hfz12_1⟩ := fz2 BK680) | ((with_reducible refine gate_callee (f := 38) rfl ?_); refine goesL_ (some 18) rfl rfl Try.func38 (by kernel_rfl) rfl #[.agg #[.slice A0_0 l0_0.length c0_0, .slice A0_1 l0_1.length c0_1], .int .i64 1048576] rfl gA ?_; (with_reducible refine (laws_szBase.calls k _ _ l0_0 _ _ l0_1 1048576 t682 _ ?side1 ?side2 ?side3 ?side4 A7.out).mono ?_); (case side1 => exact cB HR0_0); (case side2 => exact HC0_0.out); (case side3 => exact cB HR0_1); (case side4 => exact HC0_1.out); rintro e w13 ⟨rfl, hb⟩; refine ⟨_, rfl, ?_⟩; have n0_ := Aside0.mk (kb BK680 hb); have n1_ := Aside0.mk (kb BK681 hb); have n2_ := Aside0.mk (below_step (w := w) bW hb); clear BK680; clear BK681; clear HB; have BK680 := n0_; have BK681 := n1_; have HB := n2_; clear n0_ n1_ n2_; (try clear hb); (try clear hb2); (try clear hk); (try clear hi)))
      go_ret
      exact ⟨rE, bW⟩
    · rw [if_neg c8] at H
      have c8b0 : decide (t682 < 0) = false := decide_eq_false c8
      clear c8
      replace H := Option.bind_eq_some_iff.mp H
      obtain ⟨t683, A140, H⟩ := H
      replace H : (if t683 < 0 then (some true) else ((laws_toBase.f k l0_0 l0_1).bind fun bt684 => ((laws_toSnap.f a1_0 a1_1).bind fun bt690 => ((spec_ReadSnap.f k bt684.1 bt684.2 bt690.1 bt690.2 a2).bind fun bt692 => ((laws_toBase.f k l0_0 l0_1).bind fun bt694 => ((laws_toSnap.f a1_0 a1_1).bind fun bt701 => ((impl_ReadSnap.f k bt694.1 bt694.2 bt701.1 bt701.2 a2).bind fun bt703 => (if bt703.1 = bt692.1 then (laws_FnExactReadSnap.j0 k (bt703.2 != bt692.2) l0_0 l0_1 bt694.1 bt694.2) else (laws_FnExactReadSnap.j0 k true l0_0 l0_1 bt694.1 bt694.2))))))))) = some true := H
      have A14 := Aside0.mk A140
      clear A140
      by_cases c15 : t683 < 0
      · rw [if_pos c15] at H
        have c15b0 : decide (t683 < 0) = true := decide_eq_true c15
        clear c15
        clear H
        go_enter Try.func8, Try.ntmps8
        go_wp2_with (first | ((with_reducible refine gate_dst (N := 3) rfl ?_); refine bE (N := 3) (cs := #[.slice A0_0 l0_0.length c0_0, .slice A0_1 l0_1.length c0_1]) (t := 57) ?_; intro gb680 hg w16 hbox hb; have n0_ := Aside0.mk (below_step (w := w) bW hb); have n1_ := Aside0.mk (hbox); have n2_ := Aside0.mk (gS (w := w) hg); have n3_ := n2_; clear HB; have HB := n0_; have BK680 := n1_; have GW680 := n2_; have GE680 := n3_; clear n0_ n1_ n2_ n3_; clear hb hbox hg) | ((with_reducible refine gate_dst (N := 4) rfl ?_); refine bE (N := 4) (cs := #[.string a1_0, .int .i64 a1_1]) (t := 59) ?_; intro gb681 hg w17 hbox hb; have n0_ := Aside0.mk (kb BK680 hb); have n1_ := Aside0.mk (below_step (w := w) bW hb); have n2_ := Aside0.mk (hbox); have n3_ := Aside0.mk (gS (w := w) hg); have n4_ := n3_; have n5_ := Aside0.mk (nL BK680 hg); have n6_ := Aside0.mk (nG BK680 hg); clear BK680; clear HB; have BK680 := n0_; have HB := n1_; have BK681 := n2_; have GW681 := n3_; have GE681 := n4_; have NB680_681 := n5_; have NB681_680 := n6_; clear n0_ n1_ n2_ n3_ n4_ n5_ n6_; clear hb hbox hg; have hnb18 := NB680_681.out; have hnc18 := NB681_680.out; obtain ⟨hcz19_0, hcz19_1⟩ := cz2 BK680; obtain ⟨hfz19_0, hfz19_1⟩ := fz2 BK680) | ((with_reducible refine gate_callee (f := 38) rfl ?_); refine goesL_ (some 18) rfl rfl Try.func38 (by kernel_rfl) rfl #[.agg #[.slice A0_0 l0_0.length c0_0, .slice A0_1 l0_1.length c0_1], .int .i64 1048576] rfl gA ?_; (with_reducible refine (laws_szBase.calls k _ _ l0_0 _ _ l0_1 1048576 t682 _ ?side1 ?side2 ?side3 ?side4 A7.out).mono ?_); (case side1 => exact cB HR0_0); (case side2 => exact HC0_0.out); (case side3 => exact cB HR0_1); (case side4 => exact HC0_1.out); rintro e w20 ⟨rfl, hb⟩; refine ⟨_, rfl, ?_⟩; have n0_ := Aside0.mk (kb BK680 hb); have n1_ := Aside0.mk (kb BK681 hb); have n2_ := Aside0.mk (below_step (w := w) bW hb); clear BK680; clear BK681; clear HB; have BK680 := n0_; have BK681 := n1_; have HB := n2_; clear n0_ n1_ n2_; (try clear hb); (try clear hb2); (try clear hk); (try clear hi); obtain ⟨hcz21_0, hcz21_1⟩ := cz2 BK681; obtain ⟨hfz21_0, hfz21_1⟩ := fz2 BK681) | ((with_reducible refine gate_callee (f := 39) rfl ?_); refine goesL_ (some 23) rfl rfl Try.func39 (by kernel_rfl) rfl #[.agg #[.string a1_0, .int .i64 a1_1], .int .i64 t682] rfl gA ?_; (with_reducible refine (laws_szSnap.calls a1_0 a1_1 t682 t683 _ A14.out).mono ?_); rintro e w22 ⟨rfl, hb⟩; refine ⟨_, rfl, ?_⟩; have n0_ := Aside0.mk (kb BK680 hb); have n1_ := Aside0.mk (kb BK681 hb); have n2_ := Aside0.mk (below_step (w := w) bW hb); clear BK680; clear BK681; clear HB; have BK680 := n0_; have BK681 := n1_; have HB := n2_; clear n0_ n1_ n2_; (try clear hb); (try clear hb2); (try clear hk); (try clear hi)))
        go_ret
        exact ⟨rE, bW⟩
      · rw [if_neg c15] at H
        have c15b0 : decide (t683 < 0) = false := decide_eq_false c15
        clear c15
        replace H := Option.bind_eq_some_iff.mp H
        obtain ⟨⟨t684, t687⟩, A230, H⟩ := H
        replace H : ((laws_toSnap.f a1_0 a1_1).bind fun bt690 => ((spec_ReadSnap.f k t684 t687 bt690.1 bt690.2 a2).bind fun bt692 => ((laws_toBase.f k l0_0 l0_1).bind fun bt694 => ((laws_toSnap.f a1_0 a1_1).bind fun bt701 => ((impl_ReadSnap.f k bt694.1 bt694.2 bt701.1 bt701.2 a2).bind fun bt703 => (if bt703.1 = bt692.1 then (laws_FnExactReadSnap.j0 k (bt703.2 != bt692.2) l0_0 l0_1 bt694.1 bt694.2) else (laws_FnExactReadSnap.j0 k true l0_0 l0_1 bt694.1 bt694.2))))))) = some true := H
        have A23 := Aside0.mk A230
        clear A230
        replace H := Option.bind_eq_some_iff.mp H
        obtain ⟨⟨t690, t691⟩, A240, H⟩ := H
        replace H : ((spec_ReadSnap.f k t684 t687 t690 t691 a2).bind fun bt692 => ((laws_toBase.f k l0_0 l0_1).bind fun bt694 => ((laws_toSnap.f a1_0 a1_1).bind fun bt701 => ((impl_ReadSnap.f k bt694.1 bt694.2 bt701.1 bt701.2 a2).bind fun bt703 => (if bt703.1 = bt692.1 then (laws_FnExactReadSnap.j0 k (bt703.2 != bt692.2) l0_0 l0_1 bt694.1 bt694.2) else (laws_FnExactReadSnap.j0 k true l0_0 l0_1 bt694.1 bt694.2)))))) = some true := H
        have A24 := Aside0.mk A240
        clear A240
        replace H := Option.bind_eq_some_iff.mp H
        obtain ⟨⟨t692, t693⟩, A250, H⟩ := H
        replace H : ((laws_toBase.f k l0_0 l0_1).bind fun bt694 => ((laws_toSnap.f a1_0 a1_1).bind fun bt701 => ((impl_ReadSnap.f k bt694.1 bt694.2 bt701.1 bt701.2 a2).bind fun bt703 => (if bt703.1 = t692 then (laws_FnExactReadSnap.j0 k (bt703.2 != t693) l0_0 l0_1 bt694.1 bt694.2) else (laws_FnExactReadSnap.j0 k true l0_0 l0_1 bt694.1 bt694.2))))) = some true := H
        have A25 := Aside0.mk A250
        clear A250
        replace H := Option.bind_eq_some_iff.mp H
        obtain ⟨⟨t694, t697⟩, A260, H⟩ := H
        replace H : ((laws_toSnap.f a1_0 a1_1).bind fun bt701 => ((impl_ReadSnap.f k t694 t697 bt701.1 bt701.2 a2).bind fun bt703 => (if bt703.1 = t692 then (laws_FnExactReadSnap.j0 k (bt703.2 != t693) l0_0 l0_1 t694 t697) else (laws_FnExactReadSnap.j0 k true l0_0 l0_1 t694 t697)))) = some true := H
        have A26 := Aside0.mk A260
        clear A260
        replace H := Option.bind_eq_some_iff.mp H
        obtain ⟨⟨t701, t702⟩, A270, H⟩ := H
        replace H : ((impl_ReadSnap.f k t694 t697 t701 t702 a2).bind fun bt703 => (if bt703.1 = t692 then (laws_FnExactReadSnap.j0 k (bt703.2 != t693) l0_0 l0_1 t694 t697) else (laws_FnExactReadSnap.j0 k true l0_0 l0_1 t694 t697))) = some true := H
        have A27 := Aside0.mk A270
        clear A270
        replace H := Option.bind_eq_some_iff.mp H
        obtain ⟨⟨t703, t704⟩, A280, H⟩ := H
        replace H : (if t703 = t692 then (laws_FnExactReadSnap.j0 k (t704 != t693) l0_0 l0_1 t694 t697) else (laws_FnExactReadSnap.j0 k true l0_0 l0_1 t694 t697)) = some true := H
        have A28 := Aside0.mk A280
        clear A280
        have HC29 := Aside0.mk H
        clear H
        go_enter Try.func8, Try.ntmps8
        try go_wp2_with (first | ((with_reducible refine gate_dst (N := 3) rfl ?_); refine bE (N := 3) (cs := #[.slice A0_0 l0_0.length c0_0, .slice A0_1 l0_1.length c0_1]) (t := 57) ?_; intro gb680 hg w30 hbox hb; have n0_ := Aside0.mk (below_step (w := w) bW hb); have n1_ := Aside0.mk (hbox); have n2_ := Aside0.mk (gS (w := w) hg); have n3_ := n2_; clear HB; have HB := n0_; have BK680 := n1_; have GW680 := n2_; have GE680 := n3_; clear n0_ n1_ n2_ n3_; clear hb hbox hg) | ((with_reducible refine gate_dst (N := 4) rfl ?_); refine bE (N := 4) (cs := #[.string a1_0, .int .i64 a1_1]) (t := 59) ?_; intro gb681 hg w31 hbox hb; have n0_ := Aside0.mk (kb BK680 hb); have n1_ := Aside0.mk (below_step (w := w) bW hb); have n2_ := Aside0.mk (hbox); have n3_ := Aside0.mk (gS (w := w) hg); have n4_ := n3_; have n5_ := Aside0.mk (nL BK680 hg); have n6_ := Aside0.mk (nG BK680 hg); clear BK680; clear HB; have BK680 := n0_; have HB := n1_; have BK681 := n2_; have GW681 := n3_; have GE681 := n4_; have NB680_681 := n5_; have NB681_680 := n6_; clear n0_ n1_ n2_ n3_ n4_ n5_ n6_; clear hb hbox hg; have hnb32 := NB680_681.out; have hnc32 := NB681_680.out; obtain ⟨hcz33_0, hcz33_1⟩ := cz2 BK680; obtain ⟨hfz33_0, hfz33_1⟩ := fz2 BK680) | ((with_reducible refine gate_callee (f := 38) rfl ?_); refine goesL_ (some 18) rfl rfl Try.func38 (by kernel_rfl) rfl #[.agg #[.slice A0_0 l0_0.length c0_0, .slice A0_1 l0_1.length c0_1], .int .i64 1048576] rfl gA ?_; (with_reducible refine (laws_szBase.calls k _ _ l0_0 _ _ l0_1 1048576 t682 _ ?side1 ?side2 ?side3 ?side4 A7.out).mono ?_); (case side1 => exact cB HR0_0); (case side2 => exact HC0_0.out); (case side3 => exact cB HR0_1); (case side4 => exact HC0_1.out); rintro e w34 ⟨rfl, hb⟩; refine ⟨_, rfl, ?_⟩; have n0_ := Aside0.mk (kb BK680 hb); have n1_ := Aside0.mk (kb BK681 hb); have n2_ := Aside0.mk (below_step (w := w) bW hb); clear BK680; clear BK681; clear HB; have BK680 := n0_; have BK681 := n1_; have HB := n2_; clear n0_ n1_ n2_; (try clear hb); (try clear hb2); (try clear hk); (try clear hi); obtain ⟨hcz35_0, hcz35_1⟩ := cz2 BK681; obtain ⟨hfz35_0, hfz35_1⟩ := fz2 BK681) | ((with_reducible refine gate_callee (f := 39) rfl ?_); refine goesL_ (some 23) rfl rfl Try.func39 (by kernel_rfl) rfl #[.agg #[.string a1_0, .int .i64 a1_1], .int .i64 t682] rfl gA ?_; (with_reducible refine (laws_szSnap.calls a1_0 a1_1 t682 t683 _ A14.out).mono ?_); rintro e w36 ⟨rfl, hb⟩; refine ⟨_, rfl, ?_⟩; have n0_ := Aside0.mk (kb BK680 hb); have n1_ := Aside0.mk (kb BK681 hb); have n2_ := Aside0.mk (below_step (w := w) bW hb); clear BK680; clear BK681; clear HB; have BK680 := n0_; have BK681 := n1_; have HB := n2_; clear n0_ n1_ n2_; (try clear hb); (try clear hb2); (try clear hk); (try clear hi)))
        have n0_ := Aside0.mk (blk_drew BK680.out)
        have n1_ := Aside0.mk (blk_drew BK681.out)
        have n2_ := Aside0.mk (below_drew1 HB.out)
        clear BK680
        clear BK681
        clear HB
        have BK680 := n0_
        have BK681 := n1_
        have HB := n2_
        clear n0_ n1_ n2_
        refine start_ (n := 11) (S := fun w' => w'.cell? ⟨gb680, 0, none⟩ = some (.slice A0_0 l0_0.length c0_0) ∧ w'.cell? ⟨gb680, 1, none⟩ = some (.slice A0_1 l0_1.length c0_1) ∧ w'.cell? ⟨gb681, 0, none⟩ = some (.string a1_0) ∧ w'.cell? ⟨gb681, 1, none⟩ = some (.int .i64 a1_1)) (ds := []) #[false, false, false, false, false, false, false, false, false, false, false] (by kernel_rfl) rfl rfl ⟨(blk_cell BK680.out 0).trans rfl, (blk_cell BK680.out 1).trans rfl, (blk_cell BK681.out 0).trans rfl, (blk_cell BK681.out 1).trans rfl⟩ (fun hHeld => ?_); refine with_tabW laws_FnExactReadSnap.tab10 laws_FnExactReadSnap.bits10 (fun HT_ HW_ => ?_)
        generalize w36.drew = w37 at BK680 BK681 HB hHeld ⊢
        refine pure_ (i := 4) (N := some 31) (v := ?_) (a' := ?_) #[false, false, false, false, true, false, false, false, false, false, false] rfl rfl (any_of HT_.out (by kernel_rfl)) (fun _ _ _ h => h) (Or.inl ⟨by rfl, ?_⟩) ?_ ?_
        rotate_left
        · intro w'
          go_simp
          with_reducible rfl
        rotate_left
        · simp only [Act.put, List.setIfInBounds_toArray, List.set_cons_zero, List.set_cons_succ, i64_w, i32_w]
          rfl
        refine take_ (i := 0) (N := some 27) (v := ?_) (a' := ?_) #[true, false, false, false, true, false, false, false, false, false, false] rfl rfl (take_ofW HT_.out HW_.out (by kernel_rfl)) (fun _ _ _ h => h) (Or.inl ⟨by rfl, ?_⟩) hHeld ?_ ?_
        rotate_left
        · rintro w' ⟨s0, s1, s2, s3⟩
          go_simp
          with_reducible rfl
        rotate_left
        · simp only [Act.put, List.setIfInBounds_toArray, List.set_cons_zero, List.set_cons_succ, i64_w, i32_w]
          rfl
        refine take_ (i := 2) (N := some 29) (v := ?_) (a' := ?_) #[true, false, true, false, true, false, false, false, false, false, false] rfl rfl (take_ofW HT_.out HW_.out (by kernel_rfl)) (fun _ _ _ h => h) (Or.inl ⟨by rfl, ?_⟩) hHeld ?_ ?_
        rotate_left
        · rintro w' ⟨s0, s1, s2, s3⟩
          go_simp
          with_reducible rfl
        rotate_left
        · simp only [Act.put, List.setIfInBounds_toArray, List.set_cons_zero, List.set_cons_succ, i64_w, i32_w]
          rfl
        refine one_ (i := 1) (N := some 28) #[true, true, true, false, true, false, false, false, false, false, false] rfl rfl (one_of HT_.out (by kernel_rfl)) (by decide) (fun K hK => ?_)
        refine goes_ Try.func41 (by kernel_rfl) rfl #[.agg #[.slice A0_0 l0_0.length c0_0, .slice A0_1 l0_1.length c0_1]] (by rfl) rfl rfl gA ?_
        with_reducible refine (laws_toBase.calls k _ _ l0_0 _ _ l0_1 t684 t687 _ ?side1 ?side2 ?side3 ?side4 A23.out).mono ?_
        (case side1 => exact cB HR0_0)
        (case side2 => exact HC0_0.out)
        (case side3 => exact cB HR0_1)
        (case side4 => exact HC0_1.out)
        rintro e w38 ⟨v685, v688, rfl, ho0, ho1, hb⟩
        refine ⟨_, rfl, ?_⟩
        have n0_ := Aside0.mk (Kd.S_lower ho0 (below_size (w := w) bW))
        have n1_ := Aside0.mk (Kd.R_lower ho1 (below_size (w := w) bW))
        have n2_ := Aside0.mk (kb BK680 hb)
        have n3_ := Aside0.mk (kb BK681 hb)
        have n4_ := Aside0.mk (below_step (w := w) bW hb)
        clear BK680
        clear BK681
        clear HB
        have HO686 := n0_
        have HO689 := n1_
        have BK680 := n2_
        have BK681 := n3_
        have HB := n4_
        clear n0_ n1_ n2_ n3_ n4_
        (try clear hb)
        (try clear hb2)
        (try clear hk)
        (try clear hi)
        (try clear ho0)
        (try clear ho1)
        refine hK.out _ _ ⟨(blk_cell BK680.out 0).trans rfl, (blk_cell BK680.out 1).trans rfl, (blk_cell BK681.out 0).trans rfl, (blk_cell BK681.out 1).trans rfl⟩ (fun hHeld => ?_)
        clear hK K
        refine norm_ (a' := ?_) ?_ ?_
        rotate_left
        · show Act.put _ (some 28) _ = _
          simp only [Act.put, List.setIfInBounds_toArray, List.set_cons_zero, List.set_cons_succ, i64_w, i32_w]
          rfl
        refine one_ (i := 3) (N := some 30) #[true, true, true, true, true, false, false, false, false, false, false] rfl rfl (one_of HT_.out (by kernel_rfl)) (by decide) (fun K hK => ?_)
        refine goes_ Try.func42 (by kernel_rfl) rfl #[.agg #[.string a1_0, .int .i64 a1_1]] (by rfl) rfl rfl gA ?_
        with_reducible refine (laws_toSnap.calls a1_0 a1_1 t690 t691 _ A24.out).mono ?_
        rintro e w39 ⟨rfl, hb⟩
        refine ⟨_, rfl, ?_⟩
        have n0_ := Aside0.mk (Kd.S_below (pS HO686) hb)
        have n1_ := Aside0.mk (Kd.R_below (pR HO689) hb)
        have n2_ := Aside0.mk (kb BK680 hb)
        have n3_ := Aside0.mk (kb BK681 hb)
        have n4_ := Aside0.mk (below_step (w := w) bW hb)
        clear HO686
        clear HO689
        clear BK680
        clear BK681
        clear HB
        have HO686 := n0_
        have HO689 := n1_
        have BK680 := n2_
        have BK681 := n3_
        have HB := n4_
        clear n0_ n1_ n2_ n3_ n4_
        (try clear hb)
        (try clear hb2)
        (try clear hk)
        (try clear hi)
        obtain ⟨Ao40, co40, eo40⟩ := Kd.S_slice HO686.out
        (first | subst eo40 | (injection eo40 with f1_ f2_ f3_; have f4_ := f1_.symm; have f5_ := f3_.symm; clear f1_ f2_ f3_; subst f4_; subst f5_))
        obtain ⟨Ao41, co41, eo41⟩ := Kd.R_slice HO689.out
        (first | subst eo41 | (injection eo41 with f1_ f2_ f3_; have f4_ := f1_.symm; have f5_ := f3_.symm; clear f1_ f2_ f3_; subst f4_; subst f5_))
        refine hK.out _ _ ⟨(blk_cell BK680.out 0).trans rfl, (blk_cell BK680.out 1).trans rfl, (blk_cell BK681.out 0).trans rfl, (blk_cell BK681.out 1).trans rfl⟩ (fun hHeld => ?_)
        clear hK K
        refine norm_ (a' := ?_) ?_ ?_
        rotate_left
        · show Act.put _ (some 30) _ = _
          simp only [Act.put, List.setIfInBounds_toArray, List.set_cons_zero, List.set_cons_succ, i64_w, i32_w]
          rfl
        refine one_ (i := 5) (N := some 32) #[true, true, true, true, true, true, false, false, false, false, false] rfl rfl (one_of HT_.out (by kernel_rfl)) (by decide) (fun K hK => ?_)
        refine goes_ Try.func40 (by kernel_rfl) rfl #[.agg #[.slice Ao40 t684.length co40, .slice Ao41 t687.length co41], .agg #[.string t690, .int .i64 t691], .string a2] (by rfl) rfl rfl gA ?_
        with_reducible refine (spec_ReadSnap.calls k _ _ t684 _ _ t687 t690 t691 a2 t692 t693 _ ?side1 ?side2 ?side3 ?side4 A25.out).mono ?_
        (case side1 => repeat (first | exact (Kd.S_reads' HO686.out).2.2 | (with_reducible refine Kd.C_alloc ?_ _) | (with_reducible refine Kd.C_drewN ?_ _) | (with_reducible refine Kd.C_drew ?_)))
        (case side2 => exact (Kd.S_reads' HO686.out).2.1)
        (case side3 => repeat (first | exact (Kd.R_reads' HO689.out).2.2 | (with_reducible refine Kd.C_alloc ?_ _) | (with_reducible refine Kd.C_drewN ?_ _) | (with_reducible refine Kd.C_drew ?_)))
        (case side4 => exact (Kd.R_reads' HO689.out).2.1)
        rintro e w42 ⟨rfl, hb⟩
        refine ⟨_, rfl, ?_⟩
        have n0_ := Aside0.mk (Kd.S_below (pS HO686) hb)
        have n1_ := Aside0.mk (Kd.R_below (pR HO689) hb)
        have n2_ := Aside0.mk (kb BK680 hb)
        have n3_ := Aside0.mk (kb BK681 hb)
        have n4_ := Aside0.mk (below_step (w := w) bW hb)
        clear HO686
        clear HO689
        clear BK680
        clear BK681
        clear HB
        have HO686 := n0_
        have HO689 := n1_
        have BK680 := n2_
        have BK681 := n3_
        have HB := n4_
        clear n0_ n1_ n2_ n3_ n4_
        (try clear hb)
        (try clear hb2)
        (try clear hk)
        (try clear hi)
        refine hK.out _ _ ⟨(blk_cell BK680.out 0).trans rfl, (blk_cell BK680.out 1).trans rfl, (blk_cell BK681.out 0).trans rfl, (blk_cell BK681.out 1).trans rfl⟩ (fun hHeld => ?_)
        clear hK K
        refine norm_ (a' := ?_) ?_ ?_
        rotate_left
        · show Act.put _ (some 32) _ = _
          simp only [Act.put, List.setIfInBounds_toArray, List.set_cons_zero, List.set_cons_succ, i64_w, i32_w]
          rfl
        refine pure_ (i := 6) (N := some 26) (v := ?_) (a' := ?_) #[true, true, true, true, true, true, true, false, false, false, false] rfl rfl (any_of HT_.out (by kernel_rfl)) (fun _ _ _ h => h) (Or.inl ⟨by rfl, ?_⟩) ?_ ?_
        rotate_left
        · intro w'
          go_simp
          with_reducible rfl
        rotate_left
        · simp only [Act.put, List.setIfInBounds_toArray, List.set_cons_zero, List.set_cons_succ, i64_w, i32_w]
          rfl
        refine pure_ (i := 7) (N := some 33) (v := ?_) (a' := ?_) #[true, true, true, true, true, true, true, true, false, false, false] rfl rfl (any_of HT_.out (by kernel_rfl)) (fun _ _ _ h => h) (Or.inl ⟨by rfl, ?_⟩) ?_ ?_
        rotate_left
        · intro w'
          go_simp
          with_reducible rfl
        rotate_left
        · simp only [Act.put, List.setIfInBounds_toArray, List.set_cons_zero, List.set_cons_succ, i64_w, i32_w]
          rfl
        refine pure_ (i := 8) (N := some 34) (v := ?_) (a' := ?_) #[true, true, true, true, true, true, true, true, true, false, false] rfl rfl (any_of HT_.out (by kernel_rfl)) (fun _ _ _ h => h) (Or.inl ⟨by rfl, ?_⟩) ?_ ?_
        rotate_left
        · intro w'
          go_simp
          with_reducible rfl
        rotate_left
        · simp only [Act.put, List.setIfInBounds_toArray, List.set_cons_zero, List.set_cons_succ, i64_w, i32_w]
          rfl
        refine pure_ (i := 9) (N := some 8) (v := ?_) (a' := ?_) #[true, true, true, true, true, true, true, true, true, true, false] rfl rfl (any_of HT_.out (by kernel_rfl)) (fun _ _ _ h => h) (Or.inl ⟨by rfl, ?_⟩) ?_ ?_
        rotate_left
        · intro w'
          go_simp
          with_reducible rfl
        rotate_left
        · simp only [Act.put, List.setIfInBounds_toArray, List.set_cons_zero, List.set_cons_succ, i64_w, i32_w]
          rfl
        refine pure_ (i := 10) (N := some 9) (v := ?_) (a' := ?_) #[true, true, true, true, true, true, true, true, true, true, true] rfl rfl (any_of HT_.out (by kernel_rfl)) (fun _ _ _ h => h) (Or.inl ⟨by rfl, ?_⟩) ?_ ?_
        rotate_left
        · intro w'
          go_simp
          with_reducible rfl
        rotate_left
        · simp only [Act.put, List.setIfInBounds_toArray, List.set_cons_zero, List.set_cons_succ, i64_w, i32_w]
          rfl
        refine done_ (done_of HT_.out (by kernel_rfl)) ?_
        have hcz43_0 : w42.cell? ⟨gb680, 0, none⟩ = some (.slice A0_0 l0_0.length c0_0) := (blk_cell BK680.out 0).trans rfl
        have hcz43_1 : w42.cell? ⟨gb680, 1, none⟩ = some (.slice A0_1 l0_1.length c0_1) := (blk_cell BK680.out 1).trans rfl
        have hfz43_0 := blk_frozen BK680.out 0
        have hfz43_1 := blk_frozen BK680.out 1
        try go_wp2_with (first | ((with_reducible refine gate_callee (f := 41) rfl ?_); refine goesL_ (some 36) rfl rfl Try.func41 (by kernel_rfl) rfl #[.agg #[.slice A0_0 l0_0.length c0_0, .slice A0_1 l0_1.length c0_1]] rfl gA ?_; (with_reducible refine (laws_toBase.calls k _ _ l0_0 _ _ l0_1 t694 t697 _ ?side1 ?side2 ?side3 ?side4 A26.out).mono ?_); (case side1 => exact cB HR0_0); (case side2 => exact HC0_0.out); (case side3 => exact cB HR0_1); (case side4 => exact HC0_1.out); rintro e w44 ⟨v695, v698, rfl, ho0, ho1, hb⟩; refine ⟨_, rfl, ?_⟩; have n0_ := Aside0.mk (Kd.S_elder' (pS HO686) (Kd.S_base ho0) hb); have n1_ := Aside0.mk (Kd.R_elder' (pR HO689) (Kd.R_base ho1) hb); have n2_ := Aside0.mk (Kd.S_lower (Kd.S_new' ho0 (Kd.S_lt (pS HO686))) (below_size (w := w) bW)); have n3_ := Aside0.mk (Kd.R_lower (Kd.R_new' ho1 (Kd.R_lt (pR HO689))) (below_size (w := w) bW)); have n4_ := Aside0.mk (kb BK680 hb); have n5_ := Aside0.mk (kb BK681 hb); have n6_ := Aside0.mk (below_step (w := w) bW hb); clear HO686; clear HO689; clear BK680; clear BK681; clear HB; have HO686 := n0_; have HO689 := n1_; have HO696 := n2_; have HO699 := n3_; have BK680 := n4_; have BK681 := n5_; have HB := n6_; clear n0_ n1_ n2_ n3_ n4_ n5_ n6_; (try clear hb); (try clear hb2); (try clear hk); (try clear hi); (try clear ho0); (try clear ho1)) | ((with_reducible refine gate_dst (N := 10) rfl ?_); refine bE (N := 10) (cs := #[.slice none 0 0, .slice none 0 0]) (t := 66) ?_; intro gb700 hg w45 hbox hb; have n0_ := Aside0.mk (Kd.S_below (pS HO686) hb); have n1_ := Aside0.mk (Kd.R_below (pR HO689) hb); have n2_ := Aside0.mk (Kd.S_below (pS HO696) hb); have n3_ := Aside0.mk (Kd.R_below (pR HO699) hb); have n4_ := Aside0.mk (kb BK680 hb); have n5_ := Aside0.mk (kb BK681 hb); have n6_ := Aside0.mk (below_step (w := w) bW hb); have n7_ := Aside0.mk (hbox); have n8_ := Aside0.mk (gS (w := w) hg); have n9_ := n8_; have n10_ := Aside0.mk (nL BK680 hg); have n11_ := Aside0.mk (nG BK680 hg); have n12_ := Aside0.mk (nL BK681 hg); have n13_ := Aside0.mk (nG BK681 hg); clear HO686; clear HO689; clear HO696; clear HO699; clear BK680; clear BK681; clear HB; have HO686 := n0_; have HO689 := n1_; have HO696 := n2_; have HO699 := n3_; have BK680 := n4_; have BK681 := n5_; have HB := n6_; have BK700 := n7_; have GW700 := n8_; have GE700 := n9_; have NB680_700 := n10_; have NB700_680 := n11_; have NB681_700 := n12_; have NB700_681 := n13_; clear n0_ n1_ n2_ n3_ n4_ n5_ n6_ n7_ n8_ n9_ n10_ n11_ n12_ n13_; clear hb hbox hg; obtain ⟨Ao46, co46, eo46⟩ := Kd.S_slice HO696.out; subst eo46; have hnb47 := NB700_680.out; have hnc47 := NB680_700.out; have hnb48 := NB700_681.out; have hnc48 := NB681_700.out; obtain ⟨hcz49_0, hcz49_1⟩ := cz2 BK700; obtain ⟨hfz49_0, hfz49_1⟩ := fz2 BK700; obtain ⟨Ao50, co50, eo50⟩ := Kd.R_slice HO699.out; subst eo50))
        have n0_ : Aside0 (Kd.S k118 118 ((w45.setCell ⟨gb700, 0, none⟩ (.slice Ao46 t694.length co46)).setCell ⟨gb700, 1, none⟩ (.slice Ao50 t697.length co50)) w.heap.size (fun k_ => some k_ ≠ (.slice Ao46 t694.length co46 : Value).ownBlock) (.slice Ao40 t684.length co40) t684) := ⟨by (with_reducible repeat (first | apply Kd.S_alloc | apply Kd.S_drewN | apply Kd.S_drew)); exact Kd.S_mono (Kd.S_far (p := ⟨gb700, 1, none⟩) (Kd.S_far (p := ⟨gb700, 0, none⟩) (Kd.S_types HO686.out BK700.out (by decide)) (fun _ hk => hk.2) (.slice Ao46 t694.length co46)) (fun _ hk => hk.2) (.slice Ao50 t697.length co50)) (fun _ hk => hk.1.2)⟩
        have n1_ : Aside0 (Kd.R k178 178 ((w45.setCell ⟨gb700, 0, none⟩ (.slice Ao46 t694.length co46)).setCell ⟨gb700, 1, none⟩ (.slice Ao50 t697.length co50)) w.heap.size (fun k_ => some k_ ≠ (.slice Ao50 t697.length co50 : Value).ownBlock) (.slice Ao41 t687.length co41) t687) := ⟨by (with_reducible repeat (first | apply Kd.R_alloc | apply Kd.R_drewN | apply Kd.R_drew)); exact Kd.R_mono (Kd.R_far (p := ⟨gb700, 1, none⟩) (Kd.R_far (p := ⟨gb700, 0, none⟩) (Kd.R_types HO689.out BK700.out (by decide)) (fun _ hk => hk.2) (.slice Ao46 t694.length co46)) (fun _ hk => hk.2) (.slice Ao50 t697.length co50)) (fun _ hk => hk.1.2)⟩
        have n2_ : Aside0 (Kd.S k118 118 ((w45.setCell ⟨gb700, 0, none⟩ (.slice Ao46 t694.length co46)).setCell ⟨gb700, 1, none⟩ (.slice Ao50 t697.length co50)) w.heap.size (fun k_ => some k_ ≠ (.slice Ao40 t684.length co40 : Value).ownBlock) (.slice Ao46 t694.length co46) t694) := ⟨by (with_reducible repeat (first | apply Kd.S_alloc | apply Kd.S_drewN | apply Kd.S_drew)); exact Kd.S_mono (Kd.S_far (p := ⟨gb700, 1, none⟩) (Kd.S_far (p := ⟨gb700, 0, none⟩) (Kd.S_types HO696.out BK700.out (by decide)) (fun _ hk => hk.2) (.slice Ao46 t694.length co46)) (fun _ hk => hk.2) (.slice Ao50 t697.length co50)) (fun _ hk => hk.1.2)⟩
        have n3_ : Aside0 (Kd.R k178 178 ((w45.setCell ⟨gb700, 0, none⟩ (.slice Ao46 t694.length co46)).setCell ⟨gb700, 1, none⟩ (.slice Ao50 t697.length co50)) w.heap.size (fun k_ => some k_ ≠ (.slice Ao41 t687.length co41 : Value).ownBlock) (.slice Ao50 t697.length co50) t697) := ⟨by (with_reducible repeat (first | apply Kd.R_alloc | apply Kd.R_drewN | apply Kd.R_drew)); exact Kd.R_mono (Kd.R_far (p := ⟨gb700, 1, none⟩) (Kd.R_far (p := ⟨gb700, 0, none⟩) (Kd.R_types HO699.out BK700.out (by decide)) (fun _ hk => hk.2) (.slice Ao46 t694.length co46)) (fun _ hk => hk.2) (.slice Ao50 t697.length co50)) (fun _ hk => hk.1.2)⟩
        have n4_ : Aside0 (((w45.setCell ⟨gb700, 0, none⟩ (.slice Ao46 t694.length co46)).setCell ⟨gb700, 1, none⟩ (.slice Ao50 t697.length co50)).heap[gb680]? = some (.cells #[.slice A0_0 l0_0.length c0_0, .slice A0_1 l0_1.length c0_1] 57 (0, 0))) := ⟨by (with_reducible repeat (first | refine blk_drewN ?_ _ | refine blk_drew ?_ | refine blk_alloc ?_ _)); refine blk_far ?_ NB680_700.out _; (with_reducible repeat (first | refine blk_drewN ?_ _ | refine blk_drew ?_ | refine blk_alloc ?_ _)); refine blk_far ?_ NB680_700.out _; (with_reducible repeat (first | refine blk_drewN ?_ _ | refine blk_drew ?_ | refine blk_alloc ?_ _)); exact BK680.out⟩
        have n5_ : Aside0 (((w45.setCell ⟨gb700, 0, none⟩ (.slice Ao46 t694.length co46)).setCell ⟨gb700, 1, none⟩ (.slice Ao50 t697.length co50)).heap[gb681]? = some (.cells #[.string a1_0, .int .i64 a1_1] 59 (0, 0))) := ⟨by (with_reducible repeat (first | refine blk_drewN ?_ _ | refine blk_drew ?_ | refine blk_alloc ?_ _)); refine blk_far ?_ NB681_700.out _; (with_reducible repeat (first | refine blk_drewN ?_ _ | refine blk_drew ?_ | refine blk_alloc ?_ _)); refine blk_far ?_ NB681_700.out _; (with_reducible repeat (first | refine blk_drewN ?_ _ | refine blk_drew ?_ | refine blk_alloc ?_ _)); exact BK681.out⟩
        have n6_ : Aside0 (((w45.setCell ⟨gb700, 0, none⟩ (.slice Ao46 t694.length co46)).setCell ⟨gb700, 1, none⟩ (.slice Ao50 t697.length co50)).heap[gb700]? = some (.cells #[.slice Ao46 t694.length co46, .slice Ao50 t697.length co50] 66 (0, 0))) := ⟨by (with_reducible repeat (first | refine blk_drewN ?_ _ | refine blk_drew ?_ | refine blk_alloc ?_ _)); refine blk_put (cs := #[.slice Ao46 t694.length co46, .slice none 0 0]) ?_ 1 _ rfl; (with_reducible repeat (first | refine blk_drewN ?_ _ | refine blk_drew ?_ | refine blk_alloc ?_ _)); refine blk_put (cs := #[.slice none 0 0, .slice none 0 0]) ?_ 0 _ rfl; (with_reducible repeat (first | refine blk_drewN ?_ _ | refine blk_drew ?_ | refine blk_alloc ?_ _)); exact BK700.out⟩
        have n7_ : Aside0 (Below w.heap.size w ((w45.setCell ⟨gb700, 0, none⟩ (.slice Ao46 t694.length co46)).setCell ⟨gb700, 1, none⟩ (.slice Ao50 t697.length co50))) := ⟨bW⟩
        (try clear HO686)
        (try clear HO689)
        (try clear HO696)
        (try clear HO699)
        (try clear BK680)
        (try clear BK681)
        (try clear BK700)
        (try clear HB)
        generalize ((w45.setCell ⟨gb700, 0, none⟩ (.slice Ao46 t694.length co46)).setCell ⟨gb700, 1, none⟩ (.slice Ao50 t697.length co50)) = w51 at n0_ n1_ n2_ n3_ n4_ n5_ n6_ n7_ ⊢
        have HO686 := n0_
        have HO689 := n1_
        have HO696 := n2_
        have HO699 := n3_
        have BK680 := n4_
        have BK681 := n5_
        have BK700 := n6_
        have HB := n7_
        clear n0_ n1_ n2_ n3_ n4_ n5_ n6_ n7_
        have n0_ := Aside0.mk (Kd.S_drew HO686.out)
        have n1_ := Aside0.mk (Kd.R_drew HO689.out)
        have n2_ := Aside0.mk (Kd.S_drew HO696.out)
        have n3_ := Aside0.mk (Kd.R_drew HO699.out)
        have n4_ := Aside0.mk (blk_drew BK680.out)
        have n5_ := Aside0.mk (blk_drew BK681.out)
        have n6_ := Aside0.mk (blk_drew BK700.out)
        have n7_ := Aside0.mk (below_drew1 HB.out)
        clear HO686
        clear HO689
        clear HO696
        clear HO699
        clear BK680
        clear BK681
        clear BK700
        clear HB
        have HO686 := n0_
        have HO689 := n1_
        have HO696 := n2_
        have HO699 := n3_
        have BK680 := n4_
        have BK681 := n5_
        have BK700 := n6_
        have HB := n7_
        clear n0_ n1_ n2_ n3_ n4_ n5_ n6_ n7_
        refine start_ (n := 10) (S := fun w' => w'.cell? ⟨gb700, 0, none⟩ = some (.slice Ao46 t694.length co46) ∧ w'.cell? ⟨gb700, 1, none⟩ = some (.slice Ao50 t697.length co50) ∧ w'.cell? ⟨gb681, 0, none⟩ = some (.string a1_0) ∧ w'.cell? ⟨gb681, 1, none⟩ = some (.int .i64 a1_1)) (ds := []) #[false, false, false, false, false, false, false, false, false, false] (by kernel_rfl) rfl rfl ⟨(blk_cell BK700.out 0).trans rfl, (blk_cell BK700.out 1).trans rfl, (blk_cell BK681.out 0).trans rfl, (blk_cell BK681.out 1).trans rfl⟩ (fun hHeld => ?_); refine with_tabW laws_FnExactReadSnap.tab12 laws_FnExactReadSnap.bits12 (fun HT_ HW_ => ?_)
        generalize w51.drew = w52 at HO686 HO689 HO696 HO699 BK680 BK681 BK700 HB hHeld ⊢
        refine pure_ (i := 3) (N := some 41) (v := ?_) (a' := ?_) #[false, false, false, true, false, false, false, false, false, false] rfl rfl (any_of HT_.out (by kernel_rfl)) (fun _ _ _ h => h) (Or.inl ⟨by rfl, ?_⟩) ?_ ?_
        rotate_left
        · intro w'
          go_simp
          with_reducible rfl
        rotate_left
        · simp only [Act.put, List.setIfInBounds_toArray, List.set_cons_zero, List.set_cons_succ, i64_w, i32_w]
          rfl
        refine take_ (i := 0) (N := some 38) (v := ?_) (a' := ?_) #[true, false, false, true, false, false, false, false, false, false] rfl rfl (take_ofW HT_.out HW_.out (by kernel_rfl)) (fun _ _ _ h => h) (Or.inl ⟨by rfl, ?_⟩) hHeld ?_ ?_
        rotate_left
        · rintro w' ⟨s0, s1, s2, s3⟩
          go_simp
          with_reducible rfl
        rotate_left
        · simp only [Act.put, List.setIfInBounds_toArray, List.set_cons_zero, List.set_cons_succ, i64_w, i32_w]
          rfl
        refine take_ (i := 1) (N := some 39) (v := ?_) (a' := ?_) #[true, true, false, true, false, false, false, false, false, false] rfl rfl (take_ofW HT_.out HW_.out (by kernel_rfl)) (fun _ _ _ h => h) (Or.inl ⟨by rfl, ?_⟩) hHeld ?_ ?_
        rotate_left
        · rintro w' ⟨s0, s1, s2, s3⟩
          go_simp
          with_reducible rfl
        rotate_left
        · simp only [Act.put, List.setIfInBounds_toArray, List.set_cons_zero, List.set_cons_succ, i64_w, i32_w]
          rfl
        refine one_ (i := 2) (N := some 40) #[true, true, true, true, false, false, false, false, false, false] rfl rfl (one_of HT_.out (by kernel_rfl)) (by decide) (fun K hK => ?_)
        refine goes_ Try.func42 (by kernel_rfl) rfl #[.agg #[.string a1_0, .int .i64 a1_1]] (by rfl) rfl rfl gA ?_
        with_reducible refine (laws_toSnap.calls a1_0 a1_1 t701 t702 _ A27.out).mono ?_
        rintro e w53 ⟨rfl, hb⟩
        refine ⟨_, rfl, ?_⟩
        have n0_ := Aside0.mk (Kd.S_below (pS HO686) hb)
        have n1_ := Aside0.mk (Kd.R_below (pR HO689) hb)
        have n2_ := Aside0.mk (Kd.S_below (pS HO696) hb)
        have n3_ := Aside0.mk (Kd.R_below (pR HO699) hb)
        have n4_ := Aside0.mk (kb BK680 hb)
        have n5_ := Aside0.mk (kb BK681 hb)
        have n6_ := Aside0.mk (kb BK700 hb)
        have n7_ := Aside0.mk (below_step (w := w) bW hb)
        clear HO686
        clear HO689
        clear HO696
        clear HO699
        clear BK680
        clear BK681
        clear BK700
        clear HB
        have HO686 := n0_
        have HO689 := n1_
        have HO696 := n2_
        have HO699 := n3_
        have BK680 := n4_
        have BK681 := n5_
        have BK700 := n6_
        have HB := n7_
        clear n0_ n1_ n2_ n3_ n4_ n5_ n6_ n7_
        (try clear hb)
        (try clear hb2)
        (try clear hk)
        (try clear hi)
        refine hK.out _ _ ⟨(blk_cell BK700.out 0).trans rfl, (blk_cell BK700.out 1).trans rfl, (blk_cell BK681.out 0).trans rfl, (blk_cell BK681.out 1).trans rfl⟩ (fun hHeld => ?_)
        clear hK K
        refine norm_ (a' := ?_) ?_ ?_
        rotate_left
        · show Act.put _ (some 40) _ = _
          simp only [Act.put, List.setIfInBounds_toArray, List.set_cons_zero, List.set_cons_succ, i64_w, i32_w]
          rfl
        refine one_ (i := 4) (N := some 42) #[true, true, true, true, true, false, false, false, false, false] rfl rfl (one_of HT_.out (by kernel_rfl)) (by decide) (fun K hK => ?_)
        refine goes_ Try.func43 (by kernel_rfl) rfl #[.agg #[.slice Ao46 t694.length co46, .slice Ao50 t697.length co50], .agg #[.string t701, .int .i64 t702], .string a2] (by rfl) rfl rfl gA ?_
        with_reducible refine (impl_ReadSnap.calls k _ _ t694 _ _ t697 t701 t702 a2 t703 t704 _ ?side1 ?side2 ?side3 ?side4 A28.out).mono ?_
        (case side1 => repeat (first | exact (Kd.S_reads' HO696.out).2.2 | (with_reducible refine Kd.C_alloc ?_ _) | (with_reducible refine Kd.C_drewN ?_ _) | (with_reducible refine Kd.C_drew ?_)))
        (case side2 => exact (Kd.S_reads' HO696.out).2.1)
        (case side3 => repeat (first | exact (Kd.R_reads' HO699.out).2.2 | (with_reducible refine Kd.C_alloc ?_ _) | (with_reducible refine Kd.C_drewN ?_ _) | (with_reducible refine Kd.C_drew ?_)))
        (case side4 => exact (Kd.R_reads' HO699.out).2.1)
        rintro e w54 ⟨rfl, hb⟩
        refine ⟨_, rfl, ?_⟩
        have n0_ := Aside0.mk (Kd.S_below (pS HO686) hb)
        have n1_ := Aside0.mk (Kd.R_below (pR HO689) hb)
        have n2_ := Aside0.mk (Kd.S_below (pS HO696) hb)
        have n3_ := Aside0.mk (Kd.R_below (pR HO699) hb)
        have n4_ := Aside0.mk (kb BK680 hb)
        have n5_ := Aside0.mk (kb BK681 hb)
        have n6_ := Aside0.mk (kb BK700 hb)
        have n7_ := Aside0.mk (below_step (w := w) bW hb)
        clear HO686
        clear HO689
        clear HO696
        clear HO699
        clear BK680
        clear BK681
        clear BK700
        clear HB
        have HO686 := n0_
        have HO689 := n1_
        have HO696 := n2_
        have HO699 := n3_
        have BK680 := n4_
        have BK681 := n5_
        have BK700 := n6_
        have HB := n7_
        clear n0_ n1_ n2_ n3_ n4_ n5_ n6_ n7_
        (try clear hb)
        (try clear hb2)
        (try clear hk)
        (try clear hi)
        refine hK.out _ _ ⟨(blk_cell BK700.out 0).trans rfl, (blk_cell BK700.out 1).trans rfl, (blk_cell BK681.out 0).trans rfl, (blk_cell BK681.out 1).trans rfl⟩ (fun hHeld => ?_)
        clear hK K
        refine norm_ (a' := ?_) ?_ ?_
        rotate_left
        · show Act.put _ (some 42) _ = _
          simp only [Act.put, List.setIfInBounds_toArray, List.set_cons_zero, List.set_cons_succ, i64_w, i32_w]
          rfl
        refine pure_ (i := 5) (N := some 37) (v := ?_) (a' := ?_) #[true, true, true, true, true, true, false, false, false, false] rfl rfl (any_of HT_.out (by kernel_rfl)) (fun _ _ _ h => h) (Or.inl ⟨by rfl, ?_⟩) ?_ ?_
        rotate_left
        · intro w'
          go_simp
          with_reducible rfl
        rotate_left
        · simp only [Act.put, List.setIfInBounds_toArray, List.set_cons_zero, List.set_cons_succ, i64_w, i32_w]
          rfl
        refine pure_ (i := 6) (N := some 43) (v := ?_) (a' := ?_) #[true, true, true, true, true, true, true, false, false, false] rfl rfl (any_of HT_.out (by kernel_rfl)) (fun _ _ _ h => h) (Or.inl ⟨by rfl, ?_⟩) ?_ ?_
        rotate_left
        · intro w'
          go_simp
          with_reducible rfl
        rotate_left
        · simp only [Act.put, List.setIfInBounds_toArray, List.set_cons_zero, List.set_cons_succ, i64_w, i32_w]
          rfl
        refine pure_ (i := 7) (N := some 44) (v := ?_) (a' := ?_) #[true, true, true, true, true, true, true, true, false, false] rfl rfl (any_of HT_.out (by kernel_rfl)) (fun _ _ _ h => h) (Or.inl ⟨by rfl, ?_⟩) ?_ ?_
        rotate_left
        · intro w'
          go_simp
          with_reducible rfl
        rotate_left
        · simp only [Act.put, List.setIfInBounds_toArray, List.set_cons_zero, List.set_cons_succ, i64_w, i32_w]
          rfl
        refine pure_ (i := 8) (N := some 11) (v := ?_) (a' := ?_) #[true, true, true, true, true, true, true, true, true, false] rfl rfl (any_of HT_.out (by kernel_rfl)) (fun _ _ _ h => h) (Or.inl ⟨by rfl, ?_⟩) ?_ ?_
        rotate_left
        · intro w'
          go_simp
          with_reducible rfl
        rotate_left
        · simp only [Act.put, List.setIfInBounds_toArray, List.set_cons_zero, List.set_cons_succ, i64_w, i32_w]
          rfl
        refine pure_ (i := 9) (N := some 12) (v := ?_) (a' := ?_) #[true, true, true, true, true, true, true, true, true, true] rfl rfl (any_of HT_.out (by kernel_rfl)) (fun _ _ _ h => h) (Or.inl ⟨by rfl, ?_⟩) ?_ ?_
        rotate_left
        · intro w'
          go_simp
          with_reducible rfl
        rotate_left
        · simp only [Act.put, List.setIfInBounds_toArray, List.set_cons_zero, List.set_cons_succ, i64_w, i32_w]
          rfl
        refine done_ (done_of HT_.out (by kernel_rfl)) ?_
        go_upto_region 13 with (fail)
        go_cut [52] (fun v52 wc => ∃ (kq : Nat) (x52_28 : Bool), v52 = .bool x52_28 ∧ Aside0 (laws_FnExactReadSnap.j0 kq x52_28 l0_0 l0_1 t694 t697 = some true) ∧ Aside0 (kq ≤ k) ∧ Aside0 (Kd.S k118 118 wc w.heap.size (fun _ => True) (.slice Ao46 t694.length co46) t694) ∧ Aside0 (Kd.R k178 178 wc w.heap.size (fun _ => True) (.slice Ao50 t697.length co50) t697) ∧ Aside0 (wc.heap[gb680]? = some (.cells #[(.slice A0_0 l0_0.length c0_0), (.slice A0_1 l0_1.length c0_1)] 57 (0, 0))) ∧ Aside0 (wc.heap[gb681]? = some (.cells #[.string a1_0, .int .i64 a1_1] 59 (0, 0))) ∧ Aside0 (wc.heap[gb700]? = some (.cells #[(.slice Ao46 t694.length co46), (.slice Ao50 t697.length co50)] 66 (0, 0))) ∧ Aside0 (Below w.heap.size w wc))
        case first =>
          have H := HC29.out
          clear HC29
          by_cases c55 : t703 = t692
          · rw [if_pos c55] at H
            have c55b0 : (t703 == t692) = true := beq_iff_eq.mpr c55
            have c55b1 : (t703 != t692) = false := bne_eq_false_iff_eq.mpr c55
            clear c55
            (first | rw [c55b0] | (simp only [i64_w, i32_w]; rw [c55b0]) | skip)
            have H' := Aside0.mk H
            clear H
            go_wp2
            go_meet
            case rel => exact ⟨_, ((t704 != t693)), vE, H', ⟨by first | omega | exact Nat.le_refl _⟩, ⟨by (with_reducible repeat (first | apply Kd.S_alloc | apply Kd.S_drewN | apply Kd.S_drew)); exact Kd.S_mono HO696.out (fun _ hk => trivial)⟩, ⟨by (with_reducible repeat (first | apply Kd.R_alloc | apply Kd.R_drewN | apply Kd.R_drew)); exact Kd.R_mono HO699.out (fun _ hk => trivial)⟩, ⟨by (with_reducible repeat (first | refine blk_drewN ?_ _ | refine blk_drew ?_ | refine blk_alloc ?_ _)); exact BK680.out⟩, ⟨by (with_reducible repeat (first | refine blk_drewN ?_ _ | refine blk_drew ?_ | refine blk_alloc ?_ _)); exact BK681.out⟩, ⟨by (with_reducible repeat (first | refine blk_drewN ?_ _ | refine blk_drew ?_ | refine blk_alloc ?_ _)); exact BK700.out⟩, ⟨bW⟩⟩
          · rw [if_neg c55] at H
            have c55b0 : (t703 == t692) = false := beq_eq_false_iff_ne.mpr c55
            have c55b1 : (t703 != t692) = true := bne_iff_ne.mpr c55
            (first | rw [c55b0] | (simp only [i64_w, i32_w]; rw [c55b0]) | skip)
            have H' := Aside0.mk H
            clear H
            go_wp2
            go_meet
            case rel => exact ⟨_, (true), vE, H', ⟨by first | omega | exact Nat.le_refl _⟩, ⟨by (with_reducible repeat (first | apply Kd.S_alloc | apply Kd.S_drewN | apply Kd.S_drew)); exact Kd.S_mono HO696.out (fun _ hk => trivial)⟩, ⟨by (with_reducible repeat (first | apply Kd.R_alloc | apply Kd.R_drewN | apply Kd.R_drew)); exact Kd.R_mono HO699.out (fun _ hk => trivial)⟩, ⟨by (with_reducible repeat (first | refine blk_drewN ?_ _ | refine blk_drew ?_ | refine blk_alloc ?_ _)); exact BK680.out⟩, ⟨by (with_reducible repeat (first | refine blk_drewN ?_ _ | refine blk_drew ?_ | refine blk_alloc ?_ _)); exact BK681.out⟩, ⟨by (with_reducible repeat (first | refine blk_drewN ?_ _ | refine blk_drew ?_ | refine blk_alloc ?_ _)); exact BK700.out⟩, ⟨bW⟩⟩
        case rest =>
          clear HC29
          try clear c1
          try clear p2
          try clear c3
          try clear c4
          try clear c4b0
          try clear c4b1
          try clear c5
          try clear c8
          try clear c8b0
          try clear c11
          try clear c15
          try clear c15b0
          try clear c18
          try clear c32
          try clear c38
          try clear c39
          try clear c40
          try clear c41
          try clear c42
          try clear c43
          try clear c47
          try clear c48
          try clear c55
          try clear c55b0
          try clear c55b1
          try clear hcz12_0
          try clear hcz12_1
          try clear hcz19_0
          try clear hcz19_1
          try clear hcz21_0
          try clear hcz21_1
          try clear hcz33_0
          try clear hcz33_1
          try clear hcz35_0
          try clear hcz35_1
          try clear hcz43_0
          try clear hcz43_1
          try clear hcz49_0
          try clear hcz49_1
          try clear hfz12_0
          try clear hfz12_1
          try clear hfz19_0
          try clear hfz19_1
          try clear hfz21_0
          try clear hfz21_1
          try clear hfz33_0
          try clear hfz33_1
          try clear hfz35_0
          try clear hfz35_1
          try clear hfz43_0
          try clear hfz43_1
          try clear hfz49_0
          try clear hfz49_1
          obtain ⟨kq, x52_28, rfl, HA, HJ28, HO_701000, HO_701001, BK680, BK681, BK700, HB⟩ := hcut
          cases kq with
          | zero => exact absurd HA.out (by simp [laws_FnExactReadSnap.j0])
          | succ kj28 =>
            have H := HA.out
            clear HA
            simp only [laws_FnExactReadSnap.j0] at H
            by_cases c56 : x52_28 = true
            · subst c56
              have H1 : (some false) = some true := by rw [if_pos rfl] at H; exact H
              exact absurd H1 (by simp)
            · replace c56 := Bool.eq_false_iff.mpr c56
              subst c56
              have H1 : ((laws_toBase.f kj28 l0_0 l0_1).bind fun bt705 => ((laws_eqBase.f kj28 t694 t697 bt705.1 bt705.2).bind fun t711 => (if t711 = true then (some true) else (some false)))) = some true := by rw [if_neg (show ¬ (false = true) by decide)] at H; exact H
              clear H
              have H := H1
              clear H1
              replace H := Option.bind_eq_some_iff.mp H
              obtain ⟨⟨t705, t708⟩, A570, H⟩ := H
              replace H : ((laws_eqBase.f kj28 t694 t697 t705 t708).bind fun t711 => (if t711 = true then (some true) else (some false))) = some true := H
              have A57 := Aside0.mk A570
              clear A570
              replace H := Option.bind_eq_some_iff.mp H
              obtain ⟨t711, A580, H⟩ := H
              replace H : (if t711 = true then (some true) else (some false)) = some true := H
              have A58 := Aside0.mk A580
              clear A580
              by_cases c59 : t711 = true
              · subst c59
                have H1 : (some true) = some true := rfl
                clear H
                have H := H1
                clear H1
                clear H
                try go_wp2
                have n0_ := Aside0.mk (Kd.S_drew HO_701000.out)
                have n1_ := Aside0.mk (Kd.R_drew HO_701001.out)
                have n2_ := Aside0.mk (blk_drew BK680.out)
                have n3_ := Aside0.mk (blk_drew BK681.out)
                have n4_ := Aside0.mk (blk_drew BK700.out)
                have n5_ := Aside0.mk (below_drew1 HB.out)
                clear HO_701000
                clear HO_701001
                clear BK680
                clear BK681
                clear BK700
                clear HB
                have HO_701000 := n0_
                have HO_701001 := n1_
                have BK680 := n2_
                have BK681 := n3_
                have BK700 := n4_
                have HB := n5_
                clear n0_ n1_ n2_ n3_ n4_ n5_
                refine start_ (n := 5) (S := fun w' => w'.cell? ⟨gb700, 0, none⟩ = some (.slice Ao46 t694.length co46) ∧ w'.cell? ⟨gb700, 1, none⟩ = some (.slice Ao50 t697.length co50) ∧ w'.cell? ⟨gb680, 0, none⟩ = some (.slice A0_0 l0_0.length c0_0) ∧ w'.cell? ⟨gb680, 1, none⟩ = some (.slice A0_1 l0_1.length c0_1)) (ds := []) #[false, false, false, false, false] (by kernel_rfl) rfl rfl ⟨(blk_cell BK700.out 0).trans rfl, (blk_cell BK700.out 1).trans rfl, (blk_cell BK680.out 0).trans rfl, (blk_cell BK680.out 1).trans rfl⟩ (fun hHeld => ?_)
                generalize wc.drew = w60 at HO_701000 HO_701001 BK680 BK681 BK700 HB hHeld ⊢
                refine take_ (i := 0) (N := some 53) (v := ?_) (a' := ?_) #[true, false, false, false, false] rfl rfl (by kernel_rfl) (fun _ _ _ h => h) (Or.inl ⟨by rfl, ?_⟩) hHeld ?_ ?_
                rotate_left
                · rintro w' ⟨s0, s1, s2, s3⟩
                  go_simp
                  with_reducible rfl
                rotate_left
                · simp only [Act.put, List.setIfInBounds_toArray, List.set_cons_zero, List.set_cons_succ, i64_w, i32_w]
                  rfl
                refine take_ (i := 1) (N := some 54) (v := ?_) (a' := ?_) #[true, true, false, false, false] rfl rfl (by kernel_rfl) (fun _ _ _ h => h) (Or.inl ⟨by rfl, ?_⟩) hHeld ?_ ?_
                rotate_left
                · rintro w' ⟨s0, s1, s2, s3⟩
                  go_simp
                  with_reducible rfl
                rotate_left
                · simp only [Act.put, List.setIfInBounds_toArray, List.set_cons_zero, List.set_cons_succ, i64_w, i32_w]
                  rfl
                refine one_ (i := 2) (N := some 55) #[true, true, true, false, false] rfl rfl (by kernel_rfl) (by decide) (fun K hK => ?_)
                refine goes_ Try.func41 (by kernel_rfl) rfl #[.agg #[.slice A0_0 l0_0.length c0_0, .slice A0_1 l0_1.length c0_1]] (by rfl) rfl rfl gA ?_
                with_reducible refine (laws_toBase.calls kj28 _ _ l0_0 _ _ l0_1 t705 t708 _ ?side1 ?side2 ?side3 ?side4 A57.out).mono ?_
                (case side1 => exact cB HR0_0)
                (case side2 => exact HC0_0.out)
                (case side3 => exact cB HR0_1)
                (case side4 => exact HC0_1.out)
                rintro e w61 ⟨v706, v709, rfl, ho0, ho1, hb⟩
                refine ⟨_, rfl, ?_⟩
                have n0_ := Aside0.mk (Kd.S_elder' (pS HO_701000) (Kd.S_base ho0) hb)
                have n1_ := Aside0.mk (Kd.R_elder' (pR HO_701001) (Kd.R_base ho1) hb)
                have n2_ := Aside0.mk (Kd.S_lower (Kd.S_new' ho0 (Kd.S_lt (pS HO_701000))) (below_size (w := w) bW))
                have n3_ := Aside0.mk (Kd.R_lower (Kd.R_new' ho1 (Kd.R_lt (pR HO_701001))) (below_size (w := w) bW))
                have n4_ := Aside0.mk (kb BK680 hb)
                have n5_ := Aside0.mk (kb BK681 hb)
                have n6_ := Aside0.mk (kb BK700 hb)
                have n7_ := Aside0.mk (below_step (w := w) bW hb)
                clear HO_701000
                clear HO_701001
                clear BK680
                clear BK681
                clear BK700
                clear HB
                have HO_701000 := n0_
                have HO_701001 := n1_
                have HO707 := n2_
                have HO710 := n3_
                have BK680 := n4_
                have BK681 := n5_
                have BK700 := n6_
                have HB := n7_
                clear n0_ n1_ n2_ n3_ n4_ n5_ n6_ n7_
                (try clear hb)
                (try clear hb2)
                (try clear hk)
                (try clear hi)
                (try clear ho0)
                (try clear ho1)
                obtain ⟨Ao62, co62, eo62⟩ := Kd.S_slice HO707.out
                (first | subst eo62 | (injection eo62 with f1_ f2_ f3_; have f4_ := f1_.symm; have f5_ := f3_.symm; clear f1_ f2_ f3_; subst f4_; subst f5_))
                obtain ⟨Ao63, co63, eo63⟩ := Kd.R_slice HO710.out
                (first | subst eo63 | (injection eo63 with f1_ f2_ f3_; have f4_ := f1_.symm; have f5_ := f3_.symm; clear f1_ f2_ f3_; subst f4_; subst f5_))
                refine hK.out _ _ ⟨(blk_cell BK700.out 0).trans rfl, (blk_cell BK700.out 1).trans rfl, (blk_cell BK680.out 0).trans rfl, (blk_cell BK680.out 1).trans rfl⟩ (fun hHeld => ?_)
                clear hK K
                refine norm_ (a' := ?_) ?_ ?_
                rotate_left
                · show Act.put _ (some 55) _ = _
                  simp only [Act.put, List.setIfInBounds_toArray, List.set_cons_zero, List.set_cons_succ, i64_w, i32_w]
                  rfl
                refine one_ (i := 3) (N := some 56) #[true, true, true, true, false] rfl rfl (by kernel_rfl) (by decide) (fun K hK => ?_)
                refine goes_ Try.func44 (by kernel_rfl) rfl #[.agg #[.slice Ao46 t694.length co46, .slice Ao50 t697.length co50], .agg #[.slice Ao62 t705.length co62, .slice Ao63 t708.length co63]] (by rfl) rfl rfl gA ?_
                with_reducible refine (laws_eqBase.calls kj28 _ _ t694 _ _ t697 _ _ t705 _ _ t708 true _ ?side1 ?side2 ?side3 ?side4 ?side5 ?side6 ?side7 ?side8 A58.out).mono ?_
                (case side1 => repeat (first | exact (Kd.S_reads' HO_701000.out).2.2 | (with_reducible refine Kd.C_alloc ?_ _) | (with_reducible refine Kd.C_drewN ?_ _) | (with_reducible refine Kd.C_drew ?_)))
                (case side2 => exact (Kd.S_reads' HO_701000.out).2.1)
                (case side3 => repeat (first | exact (Kd.R_reads' HO_701001.out).2.2 | (with_reducible refine Kd.C_alloc ?_ _) | (with_reducible refine Kd.C_drewN ?_ _) | (with_reducible refine Kd.C_drew ?_)))
                (case side4 => exact (Kd.R_reads' HO_701001.out).2.1)
                (case side5 => repeat (first | exact (Kd.S_reads' HO707.out).2.2 | (with_reducible refine Kd.C_alloc ?_ _) | (with_reducible refine Kd.C_drewN ?_ _) | (with_reducible refine Kd.C_drew ?_)))
                (case side6 => exact (Kd.S_reads' HO707.out).2.1)
                (case side7 => repeat (first | exact (Kd.R_reads' HO710.out).2.2 | (with_reducible refine Kd.C_alloc ?_ _) | (with_reducible refine Kd.C_drewN ?_ _) | (with_reducible refine Kd.C_drew ?_)))
                (case side8 => exact (Kd.R_reads' HO710.out).2.1)
                rintro e w64 ⟨rfl, hb⟩
                refine ⟨_, rfl, ?_⟩
                have n0_ := Aside0.mk (Kd.S_below (pS HO_701000) hb)
                have n1_ := Aside0.mk (Kd.R_below (pR HO_701001) hb)
                have n2_ := Aside0.mk (Kd.S_below (pS HO707) hb)
                have n3_ := Aside0.mk (Kd.R_below (pR HO710) hb)
                have n4_ := Aside0.mk (kb BK680 hb)
                have n5_ := Aside0.mk (kb BK681 hb)
                have n6_ := Aside0.mk (kb BK700 hb)
                have n7_ := Aside0.mk (below_step (w := w) bW hb)
                clear HO_701000
                clear HO_701001
                clear HO707
                clear HO710
                clear BK680
                clear BK681
                clear BK700
                clear HB
                have HO_701000 := n0_
                have HO_701001 := n1_
                have HO707 := n2_
                have HO710 := n3_
                have BK680 := n4_
                have BK681 := n5_
                have BK700 := n6_
                have HB := n7_
                clear n0_ n1_ n2_ n3_ n4_ n5_ n6_ n7_
                (try clear hb)
                (try clear hb2)
                (try clear hk)
                (try clear hi)
                refine hK.out _ _ ⟨(blk_cell BK700.out 0).trans rfl, (blk_cell BK700.out 1).trans rfl, (blk_cell BK680.out 0).trans rfl, (blk_cell BK680.out 1).trans rfl⟩ (fun hHeld => ?_)
                clear hK K
                refine norm_ (a' := ?_) ?_ ?_
                rotate_left
                · show Act.put _ (some 56) _ = _
                  simp only [Act.put, List.setIfInBounds_toArray, List.set_cons_zero, List.set_cons_succ, i64_w, i32_w]
                  rfl
                refine pure_ (i := 4) (N := some 57) (v := ?_) (a' := ?_) #[true, true, true, true, true] rfl rfl (by kernel_rfl) (fun _ _ _ h => h) (Or.inl ⟨by rfl, ?_⟩) ?_ ?_
                rotate_left
                · intro w'
                  go_simp
                  with_reducible rfl
                rotate_left
                · simp only [Act.put, List.setIfInBounds_toArray, List.set_cons_zero, List.set_cons_succ, i64_w, i32_w]
                  rfl
                refine done_ (by kernel_rfl) ?_
                try go_wp2
                go_ret
                exact ⟨rE, bW⟩
              · replace c59 := Bool.eq_false_iff.mpr c59
                subst c59
                have H1 : (some false) = some true := by rw [if_neg (show ¬ (false = true) by decide)] at H; exact H
                exact absurd H1 (by simp)
end Go.Proofs.Ytcpljigliklgcaa.Q
end

section
namespace Go.Proofs.Ytcpljigliklgcaa.Q
open Go.RowKit Go.Proofs.YtcpljigliklgcaaW.PrintWords Go.Proofs.YtcpljigliklgcaaW.PrintLast Go.Proofs.YtcpljigliklgcaaW.PrintMore
attribute [local go_sem] max2_int min2_int max_two min_two max_three min_three max_four min_four   -- for this text's walks alone
set_option linter.unusedVariables false
set_option linter.unusedSimpArgs false
attribute [local go_sem] bin_leq bin_gtr bin_geq
def Opens {α : Type} (P : Program) (d : Kd α) (t : TypeId) (G : α → Prop) : Prop :=
  P.cellsOf t = d.sz ∧ ∀ {H : Type} (enc : TypeId × Value → H) (w : World) (base : Nat) (spare : Nat → Bool) (held : Bool) (fuel : Nat) (cs : List Value) (x : DataW H × List MemPlace),
    DataW.trod enc P w base spare held fuel t cs = some x → ∃ v, d.K w v cs ∧ G v
theorem add_twice (a : Addr) (m i : Nat) : (a.add m).add i = a.add (m + i) := by
  unfold Addr.add
  by_cases h1 : m = 0 <;> by_cases h2 : i = 0 <;> simp_all [Nat.add_assoc]
theorem opens_int {P : Program} {t : TypeId} {k : IntKind} (ht : P.underlying t = some (.int k)) (hc : P.cellsOf t = 1) : Opens P (Kd.int k) t (fun n => (Lit.int k n).wf = true) := by
  refine ⟨hc, fun enc w base spare held fuel cs x h => ?_⟩
  cases fuel with
  | zero => simp [DataW.trod] at h
  | succ n =>
    unfold DataW.trod at h
    rw [ht] at h
    split at h <;> simp_all
    obtain ⟨⟨rfl, h1⟩, _⟩ := h
    exact ⟨_, rfl, h1⟩
theorem opens_bool {P : Program} {t : TypeId} (ht : P.underlying t = some .bool) (hc : P.cellsOf t = 1) : Opens P Kd.bool t (fun _ => True) := by
  refine ⟨hc, fun enc w base spare held fuel cs x h => ?_⟩
  cases fuel with
  | zero => simp [DataW.trod] at h
  | succ n =>
    unfold DataW.trod at h
    rw [ht] at h
    split at h <;> simp_all
    rename_i b
    cases b
    · exact .inl rfl
    · exact .inr rfl
theorem opens_string {P : Program} {t : TypeId} (ht : P.underlying t = some .string) (hc : P.cellsOf t = 1) : Opens P Kd.string t (fun s => s.size ≤ 9223372036854775807) := by
  refine ⟨hc, fun enc w base spare held fuel cs x h => ?_⟩
  cases fuel with
  | zero => simp [DataW.trod] at h
  | succ n =>
    unfold DataW.trod at h
    rw [ht] at h
    split at h <;> simp_all
    exact ⟨_, rfl, h.1⟩
theorem list_of {α : Type} {Q : Nat → α → Prop} : ∀ n, (∀ i, i < n → ∃ v, Q i v) → ∃ l : List α, l.length = n ∧ ∀ i v, l[i]? = some v → Q i v
  | 0, _ => ⟨[], rfl, fun i v h => by simp at h⟩
  | n + 1, h => by
    obtain ⟨l, hl, hq⟩ := list_of n (fun i hi => h i (by omega))
    obtain ⟨v, hv⟩ := h n (by omega)
    refine ⟨l ++ [v], by simp [hl], fun i u hu => ?_⟩
    by_cases hi : i < l.length
    · rw [List.getElem?_append_left hi] at hu
      exact hq i u hu
    · have hi2 : i = l.length := by
        have := (List.getElem?_eq_some_iff.1 hu).1
        rw [List.length_append, List.length_singleton] at this
        omega
      subst hi2
      have hu' : v = u := by simpa using hu
      subst hu'
      rw [hl]
      exact hv
theorem opens_slice {α : Type} {P : Program} {d : Kd α} {t e : TypeId} {G : α → Prop} (ht : P.underlying t = some (.slice e)) (hc : P.cellsOf t = 1) (O : Opens P d e G) :
    Opens P (Kd.slice e d) t (fun l => l.length ≤ 9223372036854775807 ∧ ∀ x, x ∈ l → G x) := by
  refine ⟨hc, fun enc w base spare held fuel cs x h => ?_⟩
  rcases DataW.trod_slice ht h with ⟨rfl, _⟩ | ⟨a, len, cap, elems, rest, n, _, rfl, _, hb, hl, hm, hlen, hel, _, _⟩
  · exact ⟨[], ⟨none, 0, rfl, Nat.le_refl _, Kd.C_nil d w⟩, by simp, fun x hx => by simp at hx⟩
  · have each : ∀ i, i < len → ∃ v : α, (∃ c, c.length = d.sz ∧ d.K w v c ∧ ∀ j u, c[j]? = some u → w.cell? (a.add (i * d.sz + j)) = some u) ∧ G v := by
      intro i hi
      have h1 := hel i hi
      have h2 : elems[i]? = some (elems[i]'(by omega)) := List.getElem?_eq_getElem (by omega)
      rw [h2, Option.bind_eq_some_iff] at h1
      obtain ⟨c, hcc, htr⟩ := h1
      obtain ⟨v, hK, hG⟩ := O.2 enc w base spare held n c _ htr
      obtain ⟨_, hcl, hcells⟩ := World.cells?_some hcc
      refine ⟨v, ⟨c, d.K_len hK, hK, fun j u hu => ?_⟩, hG⟩
      have hj : j < c.length := (List.getElem?_eq_some_iff.1 hu).1
      have := hcells j (by omega)
      rw [hu, add_twice, O.1] at this
      exact this
    obtain ⟨l, hll, hq⟩ := list_of len each
    refine ⟨l, ⟨some a, cap, by rw [hll], by omega, hll ▸ ?_⟩, by unfold maxLen at hm; omega, fun x hx => ?_⟩
    · refine ⟨hll, by unfold maxLen at hm; omega, fun hp => ⟨a, rfl, fun j p hj => ?_⟩⟩
      obtain ⟨c, h1, h2, h3⟩ := (hq j p hj).1
      exact ⟨c, h1, h2, h3⟩
    · obtain ⟨i, hi, rfl⟩ := List.mem_iff_getElem.mp hx
      exact (hq i _ (List.getElem?_eq_getElem hi)).2
end Go.Proofs.Ytcpljigliklgcaa.Q
end

section
namespace Go.Proofs.Ytcpljigliklgcaa.Q
open Go.RowKit Go.Proofs.YtcpljigliklgcaaW.PrintWords Go.Proofs.YtcpljigliklgcaaW.PrintLast Go.Proofs.YtcpljigliklgcaaW.PrintMore
attribute [local go_sem] max2_int min2_int max_two min_two max_three min_three max_four min_four   -- for this text's walks alone
set_option linter.unusedVariables false
set_option linter.unusedSimpArgs false
attribute [local go_sem] bin_leq bin_gtr bin_geq
def good125 (x : S125) : Prop := (fun s => s.size ≤ 9223372036854775807) x.f0 ∧ (fun n => (Lit.int .i64 n).wf = true) x.f1
set_option maxRecDepth 100000 in
theorem opens_125 : Opens Try.prog k125 125 good125 := by
  refine ⟨by kernel_rfl, fun enc w base spare held fuel cs x h => ?_⟩
  obtain ⟨xs, n, _, _, hcl, hxl, hf⟩ := DataW.trod_struct Try.underlying125 h
  have hcl2 : cs.length = 2 := hcl.trans (by kernel_rfl)
  obtain ⟨c0, c1, rfl⟩ : ∃ c0 c1, cs = [c0, c1] := by
    match cs, hcl2 with
    | [c0, c1], _ => exact ⟨c0, c1, rfl⟩
  have h0 := hf 0 _ rfl
  rw [List.getElem?_eq_getElem (show 0 < xs.length by rw [hxl]; decide)] at h0
  obtain ⟨v0, K0, G0⟩ := (opens_string Try.underlying9 (by kernel_rfl)).2 enc w base spare held n [c0] _ ((show DataW.trod enc Try.prog w base spare held n 9 [c0] = _ from (by first | exact h0 | (rw [show Try.prog.cellsOf 9 = 1 by kernel_rfl] at h0; exact h0))))
  have h1 := hf 1 _ rfl
  rw [List.getElem?_eq_getElem (show 1 < xs.length by rw [hxl]; decide)] at h1
  obtain ⟨v1, K1, G1⟩ := (opens_int (k := .i64) Try.underlying3 (by kernel_rfl)).2 enc w base spare held n [c1] _ ((show DataW.trod enc Try.prog w base spare held n 3 [c1] = _ from (by first | exact h1 | (rw [show Try.prog.cellsOf 3 = 1 by kernel_rfl] at h1; exact h1))))
  exact ⟨⟨v0, v1⟩, ⟨[c0], [c1], rfl, K0, K1⟩, ⟨G0, G1⟩⟩
end Go.Proofs.Ytcpljigliklgcaa.Q
end

section
namespace Go.Proofs.Ytcpljigliklgcaa.Q
open Go.RowKit Go.Proofs.YtcpljigliklgcaaW.PrintWords Go.Proofs.YtcpljigliklgcaaW.PrintLast Go.Proofs.YtcpljigliklgcaaW.PrintMore
attribute [local go_sem] max2_int min2_int max_two min_two max_three min_three max_four min_four   -- for this text's walks alone
set_option linter.unusedVariables false
set_option linter.unusedSimpArgs false
attribute [local go_sem] bin_leq bin_gtr bin_geq
def good209 (x : S209) : Prop := (fun l => l.length ≤ 9223372036854775807 ∧ ∀ x, x ∈ l → (fun n => (Lit.int .i64 n).wf = true) x) x.f0 ∧ (fun l => l.length ≤ 9223372036854775807 ∧ ∀ x, x ∈ l → good125 x) x.f1
set_option maxRecDepth 100000 in
theorem opens_209 : Opens Try.prog k209 209 good209 := by
  refine ⟨by kernel_rfl, fun enc w base spare held fuel cs x h => ?_⟩
  obtain ⟨xs, n, _, _, hcl, hxl, hf⟩ := DataW.trod_struct Try.underlying209 h
  have hcl2 : cs.length = 2 := hcl.trans (by kernel_rfl)
  obtain ⟨c0, c1, rfl⟩ : ∃ c0 c1, cs = [c0, c1] := by
    match cs, hcl2 with
    | [c0, c1], _ => exact ⟨c0, c1, rfl⟩
  have h0 := hf 0 _ rfl
  rw [List.getElem?_eq_getElem (show 0 < xs.length by rw [hxl]; decide)] at h0
  obtain ⟨v0, K0, G0⟩ := (opens_slice Try.underlying116 (by kernel_rfl) (opens_int (k := .i64) Try.underlying3 (by kernel_rfl))).2 enc w base spare held n [c0] _ ((show DataW.trod enc Try.prog w base spare held n 116 [c0] = _ from (by first | exact h0 | (rw [show Try.prog.cellsOf 116 = 1 by kernel_rfl] at h0; exact h0))))
  have h1 := hf 1 _ rfl
  rw [List.getElem?_eq_getElem (show 1 < xs.length by rw [hxl]; decide)] at h1
  obtain ⟨v1, K1, G1⟩ := (opens_slice Try.underlying22 (by kernel_rfl) opens_125).2 enc w base spare held n [c1] _ ((show DataW.trod enc Try.prog w base spare held n 22 [c1] = _ from (by first | exact h1 | (rw [show Try.prog.cellsOf 22 = 1 by kernel_rfl] at h1; exact h1))))
  exact ⟨⟨v0, v1⟩, ⟨[c0], [c1], rfl, K0, K1⟩, ⟨G0, G1⟩⟩
end Go.Proofs.Ytcpljigliklgcaa.Q
end

section
namespace Go.Proofs.Ytcpljigliklgcaa.Q
open Go.RowKit Go.Proofs.YtcpljigliklgcaaW.PrintWords Go.Proofs.YtcpljigliklgcaaW.PrintLast Go.Proofs.YtcpljigliklgcaaW.PrintMore
attribute [local go_sem] max2_int min2_int max_two min_two max_three min_three max_four min_four   -- for this text's walks alone
set_option linter.unusedVariables false
set_option linter.unusedSimpArgs false
attribute [local go_sem] bin_leq bin_gtr bin_geq
def good211 (x : S211) : Prop := (fun s => s.size ≤ 9223372036854775807) x.f0 ∧ (fun n => (Lit.int .i64 n).wf = true) x.f1 ∧ (fun n => (Lit.int .i64 n).wf = true) x.f2 ∧ (fun _ => True) x.f3
set_option maxRecDepth 100000 in
theorem opens_211 : Opens Try.prog k211 211 good211 := by
  refine ⟨by kernel_rfl, fun enc w base spare held fuel cs x h => ?_⟩
  obtain ⟨xs, n, _, _, hcl, hxl, hf⟩ := DataW.trod_struct Try.underlying211 h
  have hcl2 : cs.length = 4 := hcl.trans (by kernel_rfl)
  obtain ⟨c0, c1, c2, c3, rfl⟩ : ∃ c0 c1 c2 c3, cs = [c0, c1, c2, c3] := by
    match cs, hcl2 with
    | [c0, c1, c2, c3], _ => exact ⟨c0, c1, c2, c3, rfl⟩
  have h0 := hf 0 _ rfl
  rw [List.getElem?_eq_getElem (show 0 < xs.length by rw [hxl]; decide)] at h0
  obtain ⟨v0, K0, G0⟩ := (opens_string Try.underlying9 (by kernel_rfl)).2 enc w base spare held n [c0] _ ((show DataW.trod enc Try.prog w base spare held n 9 [c0] = _ from (by first | exact h0 | (rw [show Try.prog.cellsOf 9 = 1 by kernel_rfl] at h0; exact h0))))
  have h1 := hf 1 _ rfl
  rw [List.getElem?_eq_getElem (show 1 < xs.length by rw [hxl]; decide)] at h1
  obtain ⟨v1, K1, G1⟩ := (opens_int (k := .i64) Try.underlying3 (by kernel_rfl)).2 enc w base spare held n [c1] _ ((show DataW.trod enc Try.prog w base spare held n 3 [c1] = _ from (by first | exact h1 | (rw [show Try.prog.cellsOf 3 = 1 by kernel_rfl] at h1; exact h1))))
  have h2 := hf 2 _ rfl
  rw [List.getElem?_eq_getElem (show 2 < xs.length by rw [hxl]; decide)] at h2
  obtain ⟨v2, K2, G2⟩ := (opens_int (k := .i64) Try.underlying3 (by kernel_rfl)).2 enc w base spare held n [c2] _ ((show DataW.trod enc Try.prog w base spare held n 3 [c2] = _ from (by first | exact h2 | (rw [show Try.prog.cellsOf 3 = 1 by kernel_rfl] at h2; exact h2))))
  have h3 := hf 3 _ rfl
  rw [List.getElem?_eq_getElem (show 3 < xs.length by rw [hxl]; decide)] at h3
  obtain ⟨v3, K3, G3⟩ := (opens_bool Try.underlying4 (by kernel_rfl)).2 enc w base spare held n [c3] _ ((show DataW.trod enc Try.prog w base spare held n 4 [c3] = _ from (by first | exact h3 | (rw [show Try.prog.cellsOf 4 = 1 by kernel_rfl] at h3; exact h3))))
  exact ⟨⟨v0, v1, v2, v3⟩, ⟨[c0], [c1, c2, c3], rfl, K0, ⟨[c1], [c2, c3], rfl, K1, ⟨[c2], [c3], rfl, K2, K3⟩⟩⟩, ⟨G0, G1, G2, G3⟩⟩
end Go.Proofs.Ytcpljigliklgcaa.Q
end

section
namespace Go.Proofs.Ytcpljigliklgcaa.Q
open Go.RowKit Go.Proofs.YtcpljigliklgcaaW.PrintWords Go.Proofs.YtcpljigliklgcaaW.PrintLast Go.Proofs.YtcpljigliklgcaaW.PrintMore
attribute [local go_sem] max2_int min2_int max_two min_two max_three min_three max_four min_four   -- for this text's walks alone
set_option linter.unusedVariables false
set_option linter.unusedSimpArgs false
attribute [local go_sem] bin_leq bin_gtr bin_geq
def good57 (x : S57) : Prop := (fun l => l.length ≤ 9223372036854775807 ∧ ∀ x, x ∈ l → good209 x) x.f0 ∧ (fun l => l.length ≤ 9223372036854775807 ∧ ∀ x, x ∈ l → good211 x) x.f1
set_option maxRecDepth 100000 in
theorem opens_57 : Opens Try.prog k57 57 good57 := by
  refine ⟨by kernel_rfl, fun enc w base spare held fuel cs x h => ?_⟩
  obtain ⟨xs, n, _, _, hcl, hxl, hf⟩ := DataW.trod_struct Try.underlying57 h
  have hcl2 : cs.length = 2 := hcl.trans (by kernel_rfl)
  obtain ⟨c0, c1, rfl⟩ : ∃ c0 c1, cs = [c0, c1] := by
    match cs, hcl2 with
    | [c0, c1], _ => exact ⟨c0, c1, rfl⟩
  have h0 := hf 0 _ rfl
  rw [List.getElem?_eq_getElem (show 0 < xs.length by rw [hxl]; decide)] at h0
  obtain ⟨v0, K0, G0⟩ := (opens_slice Try.underlying54 (by kernel_rfl) opens_209).2 enc w base spare held n [c0] _ ((show DataW.trod enc Try.prog w base spare held n 54 [c0] = _ from (by first | exact h0 | (rw [show Try.prog.cellsOf 54 = 1 by kernel_rfl] at h0; exact h0))))
  have h1 := hf 1 _ rfl
  rw [List.getElem?_eq_getElem (show 1 < xs.length by rw [hxl]; decide)] at h1
  obtain ⟨v1, K1, G1⟩ := (opens_slice Try.underlying55 (by kernel_rfl) opens_211).2 enc w base spare held n [c1] _ ((show DataW.trod enc Try.prog w base spare held n 55 [c1] = _ from (by first | exact h1 | (rw [show Try.prog.cellsOf 55 = 1 by kernel_rfl] at h1; exact h1))))
  exact ⟨⟨v0, v1⟩, ⟨[c0], [c1], rfl, K0, K1⟩, ⟨G0, G1⟩⟩
end Go.Proofs.Ytcpljigliklgcaa.Q
end

section
namespace Go.Proofs.Ytcpljigliklgcaa.Q
open Go.RowKit Go.Proofs.YtcpljigliklgcaaW.PrintWords Go.Proofs.YtcpljigliklgcaaW.PrintLast Go.Proofs.YtcpljigliklgcaaW.PrintMore
attribute [local go_sem] max2_int min2_int max_two min_two max_three min_three max_four min_four   -- for this text's walks alone
set_option linter.unusedVariables false
set_option linter.unusedSimpArgs false
attribute [local go_sem] bin_leq bin_gtr bin_geq
def good59 (x : S59) : Prop := (fun s => s.size ≤ 9223372036854775807) x.f0 ∧ (fun n => (Lit.int .i64 n).wf = true) x.f1
set_option maxRecDepth 100000 in
theorem opens_59 : Opens Try.prog k59 59 good59 := by
  refine ⟨by kernel_rfl, fun enc w base spare held fuel cs x h => ?_⟩
  obtain ⟨xs, n, _, _, hcl, hxl, hf⟩ := DataW.trod_struct Try.underlying59 h
  have hcl2 : cs.length = 2 := hcl.trans (by kernel_rfl)
  obtain ⟨c0, c1, rfl⟩ : ∃ c0 c1, cs = [c0, c1] := by
    match cs, hcl2 with
    | [c0, c1], _ => exact ⟨c0, c1, rfl⟩
  have h0 := hf 0 _ rfl
  rw [List.getElem?_eq_getElem (show 0 < xs.length by rw [hxl]; decide)] at h0
  obtain ⟨v0, K0, G0⟩ := (opens_string Try.underlying9 (by kernel_rfl)).2 enc w base spare held n [c0] _ ((show DataW.trod enc Try.prog w base spare held n 9 [c0] = _ from (by first | exact h0 | (rw [show Try.prog.cellsOf 9 = 1 by kernel_rfl] at h0; exact h0))))
  have h1 := hf 1 _ rfl
  rw [List.getElem?_eq_getElem (show 1 < xs.length by rw [hxl]; decide)] at h1
  obtain ⟨v1, K1, G1⟩ := (opens_int (k := .i64) Try.underlying3 (by kernel_rfl)).2 enc w base spare held n [c1] _ ((show DataW.trod enc Try.prog w base spare held n 3 [c1] = _ from (by first | exact h1 | (rw [show Try.prog.cellsOf 3 = 1 by kernel_rfl] at h1; exact h1))))
  exact ⟨⟨v0, v1⟩, ⟨[c0], [c1], rfl, K0, K1⟩, ⟨G0, G1⟩⟩
end Go.Proofs.Ytcpljigliklgcaa.Q
end

section
namespace Go.Proofs.Ytcpljigliklgcaa.Q
open Go.RowKit Go.Proofs.YtcpljigliklgcaaW.PrintWords Go.Proofs.YtcpljigliklgcaaW.PrintLast Go.Proofs.YtcpljigliklgcaaW.PrintMore
attribute [local go_sem] max2_int min2_int max_two min_two max_three min_three max_four min_four   -- for this text's walks alone
set_option linter.unusedVariables false
set_option linter.unusedSimpArgs false
attribute [local go_sem] bin_leq bin_gtr bin_geq
def laws_FnExactReadSnap.Pure : Prop := ∀ (l0_0 : List (S209)) (l0_1 : List (S211)) (a1_0 : ByteArray) (a1_1 : Int) (a2 : ByteArray), good57 (⟨l0_0, l0_1⟩ : S57) → good59 (⟨a1_0, a1_1⟩ : S59) → a2.size ≤ 140737488351232 → ∃ k, laws_FnExactReadSnap.f k l0_0 l0_1 a1_0 a1_1 a2 = some true
theorem laws_FnExactReadSnap.walk (P : laws_FnExactReadSnap.Pure) (A0_0 : Option Addr) (c0_0 : Nat) (l0_0 : List (S209)) (A0_1 : Option Addr) (c0_1 : Nat) (l0_1 : List (S211)) (a1_0 : ByteArray) (a1_1 : Int) (a2 : ByteArray) (w : World) (w0 : good57 (⟨l0_0, l0_1⟩ : S57)) (w1 : good59 (⟨a1_0, a1_1⟩ : S59)) (w2 : a2.size ≤ 140737488351232) (hr0_0 : Kd.C k209 w A0_0 l0_0.length l0_0) (hc0_0 : l0_0.length ≤ c0_0) (hr0_1 : Kd.C k211 w A0_1 l0_1.length l0_1) (hc0_1 : l0_1.length ≤ c0_1) :
    Calls Try.prog 8 #[.agg #[.slice A0_0 l0_0.length c0_0, .slice A0_1 l0_1.length c0_1], .agg #[.string a1_0, .int .i64 a1_1], .string a2] w fun e w' => e = .returned (.bool true) ∧ Below w.heap.size w w' := by
  obtain ⟨k, hk⟩ := P l0_0 l0_1 a1_0 a1_1 a2 w0 w1 w2
  exact (laws_FnExactReadSnap.calls k A0_0 c0_0 l0_0 A0_1 c0_1 l0_1 a1_0 a1_1 a2 w hr0_0 hc0_0 hr0_1 hc0_1 hk).mono fun e w' h => ⟨h.1, h.2⟩
end Go.Proofs.Ytcpljigliklgcaa.Q
end

section
namespace Go.Proofs.Ytcpljigliklgcaa.Q
open Go.RowKit Go.Proofs.YtcpljigliklgcaaW.PrintWords Go.Proofs.YtcpljigliklgcaaW.PrintLast Go.Proofs.YtcpljigliklgcaaW.PrintMore
attribute [local go_sem] max2_int min2_int max_two min_two max_three min_three max_four min_four   -- for this text's walks alone
set_option linter.unusedVariables false
set_option linter.unusedSimpArgs false
attribute [local go_sem] bin_leq bin_gtr bin_geq
theorem ev_map_loop {α β : Type} {L : Nat → List α → List β → Int → Option (List β)} {g : Nat → α → Option β} {cv : α → β} {z : α}
    (step : ∀ k xs acc i, L (k + 1) xs acc i = if i < (xs.length : Int) then (if 0 ≤ i then ((g k (xs.getD i.toNat z)).bind fun y => (if i < (acc.length : Int) then (L k xs (acc.set i.toNat y) (wrap64 (i + 1))) else none)) else none) else some acc)
    (xs : List α) (hlen : xs.length ≤ 4611686018427387904) (hg : ∀ x, x ∈ xs → Ev (fun k => g k x) (cv x)) (acc : List β) (ha : acc.length = xs.length) : Ev (fun k => L k xs acc 0) (xs.map cv) := by
  have key : ∀ d (i : Nat) (acc : List β), i + d = xs.length → acc.length = xs.length → Ev (fun k => L k xs acc (i : Int)) (acc.take i ++ (xs.drop i).map cv) := by
    intro d
    induction d with
    | zero =>
      intro i acc hi ha
      refine Ev.step (f := fun _ => some acc) (fun k => by rw [step, if_neg (by omega)]) ?_
      rw [List.take_of_length_le (by omega), List.drop_eq_nil_of_le (by omega)]
      simpa using Ev.now acc
    | succ d ih =>
      intro i acc hi ha
      have hl : i < xs.length := by omega
      have hw : wrap64 ((i : Int) + 1) = ((i + 1 : Nat) : Int) := by unfold wrap64; omega
      have hx : xs.getD ((i : Int).toNat) z = xs[i] := by simp [List.getD_eq_getElem?_getD, List.getElem?_eq_getElem hl]
      refine Ev.step (f := fun k => (g k xs[i]).bind fun y => L k xs (acc.set i y) ((i + 1 : Nat) : Int)) (fun k => ?_) ?_
      · rw [step, if_pos (by omega), if_pos (by omega), hx, hw]
        congr 1
        funext y
        rw [if_pos (by omega)]
        simp
      · have h2 := ih (i + 1) (acc.set i (cv xs[i])) (by omega) (by simpa using ha)
        have e : (acc.set i (cv xs[i])).take (i + 1) ++ (xs.drop (i + 1)).map cv = acc.take i ++ (xs.drop i).map cv := by
          rw [List.drop_eq_getElem_cons hl, List.map_cons, List.take_succ_eq_append_getElem (by simpa using (show i < acc.length by omega)), List.take_set_of_le (by omega)]
          simp
        rw [e] at h2
        exact Ev.bind (hg _ (List.getElem_mem hl)) h2
  have h := key xs.length 0 acc (by omega) ha
  simpa using h
theorem ev_refl_loop {α : Type} {L : Nat → List α → List α → Int → Option Bool} {g : Nat → α → α → Option Bool} {z : α}
    (step : ∀ k xs ys i, L (k + 1) xs ys i = if i < (xs.length : Int) then (if 0 ≤ i then (if i < (ys.length : Int) then ((g k (xs.getD i.toNat z) (ys.getD i.toNat z)).bind fun t => (if t = true then L k xs ys (wrap64 (i + 1)) else some false)) else none) else none) else some true)
    (xs : List α) (hlen : xs.length ≤ 4611686018427387904) (hg : ∀ x, x ∈ xs → Ev (fun k => g k x x) true) : Ev (fun k => L k xs xs 0) true := by
  have key : ∀ d (i : Nat), i + d = xs.length → Ev (fun k => L k xs xs (i : Int)) true := by
    intro d
    induction d with
    | zero =>
      intro i hi
      exact Ev.step (f := fun _ => some true) (fun k => by rw [step, if_neg (by omega)]) (Ev.now true)
    | succ d ih =>
      intro i hi
      have hl : i < xs.length := by omega
      have hw : wrap64 ((i : Int) + 1) = ((i + 1 : Nat) : Int) := by unfold wrap64; omega
      have hx : xs.getD ((i : Int).toNat) z = xs[i] := by simp [List.getD_eq_getElem?_getD, List.getElem?_eq_getElem hl]
      refine Ev.step (f := fun k => (g k xs[i] xs[i]).bind fun t => if t = true then L k xs xs ((i + 1 : Nat) : Int) else some false) (fun k => ?_) ?_
      · rw [step, if_pos (by omega), if_pos (by omega), if_pos (by omega), hx, hw]
      · refine Ev.bind (hg _ (List.getElem_mem hl)) ?_
        simp only [if_true]
        exact ih (i + 1) (by omega)
  exact key xs.length 0 (by omega)
theorem ev_sz_loop {α : Type} {L : Nat → List α → Int → Int → Option Int} {g : Nat → α → Int → Option Int} {z : α}
    (step : ∀ k xs left i, L (k + 1) xs left i = if i < (xs.length : Int) then (if 0 ≤ i then ((g k (xs.getD i.toNat z) left).bind fun t => (if t < 0 then some (-1) else L k xs t (wrap64 (i + 1)))) else none) else some left)
    (xs : List α) (hlen : xs.length ≤ 4611686018427387904) (hg : ∀ x, x ∈ xs → ∀ left : Int, 0 ≤ left → left ≤ 1048576 → ∃ r, Ev (fun k => g k x left) r ∧ r ≤ left) (left : Int) (h0 : 0 ≤ left) (h1 : left ≤ 1048576) :
    ∃ r, Ev (fun k => L k xs left 0) r ∧ r ≤ left := by
  have key : ∀ d (i : Nat) (left : Int), i + d = xs.length → 0 ≤ left → left ≤ 1048576 → ∃ r, Ev (fun k => L k xs left (i : Int)) r ∧ r ≤ left := by
    intro d
    induction d with
    | zero =>
      intro i left hi h0 h1
      exact ⟨left, Ev.step (f := fun _ => some left) (fun k => by rw [step, if_neg (by omega)]) (Ev.now left), by omega⟩
    | succ d ih =>
      intro i left hi h0 h1
      have hl : i < xs.length := by omega
      have hw : wrap64 ((i : Int) + 1) = ((i + 1 : Nat) : Int) := by unfold wrap64; omega
      have hx : xs.getD ((i : Int).toNat) z = xs[i] := by simp [List.getD_eq_getElem?_getD, List.getElem?_eq_getElem hl]
      obtain ⟨t, ht, htl⟩ := hg _ (List.getElem_mem hl) left h0 h1
      by_cases hn : t < 0
      · refine ⟨-1, Ev.step (f := fun k => (g k xs[i] left).bind fun t => if t < 0 then some (-1) else L k xs t ((i + 1 : Nat) : Int)) (fun k => ?_) (Ev.bind ht ?_), by omega⟩
        · rw [step, if_pos (by omega), if_pos (by omega), hx, hw]
        · simp only [hn, if_true]
          exact Ev.now _
      · obtain ⟨r, hr, hrl⟩ := ih (i + 1) t (by omega) (by omega) (by omega)
        refine ⟨r, Ev.step (f := fun k => (g k xs[i] left).bind fun t => if t < 0 then some (-1) else L k xs t ((i + 1 : Nat) : Int)) (fun k => ?_) (Ev.bind ht ?_), by omega⟩
        · rw [step, if_pos (by omega), if_pos (by omega), hx, hw]
        · simp only [hn, if_false]
          exact hr
  exact key xs.length 0 left (by omega) h0 h1
end Go.Proofs.Ytcpljigliklgcaa.Q
end

section
namespace Go.Proofs.Ytcpljigliklgcaa.Q
open Go.RowKit Go.Proofs.YtcpljigliklgcaaW.PrintWords Go.Proofs.YtcpljigliklgcaaW.PrintLast
set_option linter.unusedVariables false
def cvEntry (x : S125) : S51 := ⟨x.f0, x.f1⟩
theorem toEntryS_ev (l : List S125) (h : l.length ≤ 1048576) : Ev (fun k => laws_toEntryS.f k l) (l.map cvEntry) := by
  refine Ev.congr (f := fun k => laws_toEntryS.l0 k l (List.replicate l.length z51) 0) (fun k => ?_) ?_
  · unfold laws_toEntryS.f
    rw [if_pos (by omega), if_pos (by omega)]
    rfl
  · exact ev_map_loop (L := laws_toEntryS.l0) (g := fun _ x => some (cvEntry x)) (z := z125) (fun _ _ _ _ => rfl) l (by omega) (fun x _ => Ev.now _) _ (by simp)
theorem eqEntry_refl (x : S51) : laws_eqEntry.f x.f0 x.f1 x.f0 x.f1 = some true := by
  unfold laws_eqEntry.f
  simp
theorem eqEntryS_ev (l : List S51) (h : l.length ≤ 1048576) : Ev (fun k => laws_eqEntryS.f k l l) true := by
  refine Ev.congr (f := fun k => laws_eqEntryS.l0 k l l 0) (fun k => ?_) ?_
  · unfold laws_eqEntryS.f
    rw [if_pos rfl]
  · exact ev_refl_loop (L := laws_eqEntryS.l0) (g := fun _ x y => laws_eqEntry.f x.f0 x.f1 y.f0 y.f1) (z := z51) (fun _ _ _ _ => rfl) l (by omega) (fun x _ => Ev.congr (fun _ => eqEntry_refl x) (Ev.now _))
theorem szEntryS_ev (l : List S125) (hl : l.length ≤ 9223372036854775807) (hg : ∀ x, x ∈ l → good125 x) (left : Int) (h0 : 0 ≤ left) (h1 : left ≤ 1048576) :
    ∃ r, Ev (fun k => laws_szEntryS.f k l left) r ∧ r ≤ left ∧ (0 ≤ r → l.length ≤ 1048576) := by
  have hw : wrap64 (left - (l.length : Int)) = left - (l.length : Int) := by unfold wrap64; omega
  by_cases hn : left - (l.length : Int) < 0
  · refine ⟨-1, Ev.congr (f := fun _ => some (-1)) (fun k => ?_) (Ev.now _), by omega, by omega⟩
    unfold laws_szEntryS.f
    rw [hw, if_pos hn]
  · obtain ⟨r, hr, hrl⟩ := ev_sz_loop (L := laws_szEntryS.l0) (g := fun _ x left => laws_szEntry.f x.f0 x.f1 left) (z := z125) (fun _ _ _ _ => rfl) l (by omega) (fun x hx left h0 h1 => by
      have hsz : x.f0.size ≤ 9223372036854775807 := (hg x hx).1
      have hw2 : wrap64 (left - (x.f0.size : Int)) = left - (x.f0.size : Int) := by unfold wrap64; omega
      by_cases h2 : left - (x.f0.size : Int) < 0
      · refine ⟨-1, Ev.congr (f := fun _ => some (-1)) (fun k => ?_) (Ev.now _), by omega⟩
        unfold laws_szEntry.f
        rw [hw2, if_pos h2]
      · refine ⟨left - (x.f0.size : Int), Ev.congr (f := fun _ => some (left - (x.f0.size : Int))) (fun k => ?_) (Ev.now _), by omega⟩
        unfold laws_szEntry.f
        rw [hw2, if_neg h2]) (left - (l.length : Int)) (by omega) (by omega)
    refine ⟨r, Ev.congr (f := fun k => laws_szEntryS.l0 k l (left - (l.length : Int)) 0) (fun k => ?_) hr, by omega, by omega⟩
    unfold laws_szEntryS.f
    rw [hw, if_neg hn]
end Go.Proofs.Ytcpljigliklgcaa.Q
end

section
namespace Go.Proofs.Ytcpljigliklgcaa.Q
open Go.RowKit Go.Proofs.YtcpljigliklgcaaW.PrintWords Go.Proofs.YtcpljigliklgcaaW.PrintLast
set_option linter.unusedVariables false
theorem Ev.shift {α : Type} {g h : Nat → Option α} {r : α} {c d : Nat} (e : ∀ k, g (k + c) = h (k + d)) (k : Ev h r) : Ev g r := by
  obtain ⟨K, hK⟩ := k
  refine ⟨K + c, fun n hn => ?_⟩
  obtain ⟨m, rfl⟩ : ∃ m, n = m + c := ⟨n - c, by omega⟩
  rw [e]
  exact hK _ (by omega)
theorem Ev.at_ {α : Type} {g : Nat → Option α} {r : α} {c : Nat} (e : ∀ k, g (k + c) = some r) : Ev g r := by
  refine ⟨c, fun n hn => ?_⟩
  obtain ⟨m, rfl⟩ : ∃ m, n = m + c := ⟨n - c, by omega⟩
  exact e m
theorem Ev.succ {α : Type} {g : Nat → Option α} {r : α} (h : Ev (fun k => g (k + 1)) r) : Ev g r := Ev.step (fun _ => rfl) h
theorem ev_all_loop {L : Nat → Int → Option Bool} {n : Nat} {p : Nat → Bool} {fin : Bool}
    (step : ∀ i : Nat, i < n → (∀ j, j < i → p j = true) → p i = true → ∃ c d, ∀ k, L (k + c) (i : Int) = L (k + d) ((i + 1 : Nat) : Int))
    (stop : ∀ i : Nat, i < n → (∀ j, j < i → p j = true) → p i = false → ∃ c, ∀ k, L (k + c) (i : Int) = some false)
    (done : Ev (fun k => L k (n : Int)) fin) : Ev (fun k => L k 0) (allR p n && fin) := by
  have key : ∀ d (i : Nat), i + d = n → (∀ j, j < i → p j = true) → Ev (fun k => L k (i : Int)) (allR p n && fin) := by
    intro d
    induction d with
    | zero =>
      intro i hi hp
      obtain rfl : i = n := by omega
      rw [allR_true hp, Bool.true_and]
      exact done
    | succ d ih =>
      intro i hi hp
      cases h : p i with
      | true =>
        obtain ⟨c, d', e⟩ := step i (by omega) hp h
        refine Ev.shift e (ih (i + 1) (by omega) (fun j hj => ?_))
        rcases Nat.lt_or_eq_of_le (Nat.le_of_lt_succ hj) with h1 | h1
        · exact hp j h1
        · rw [h1]; exact h
      | false =>
        obtain ⟨c, e⟩ := stop i (by omega) hp h
        rw [allR_false (by omega) h, Bool.false_and]
        exact Ev.at_ e
  exact key n 0 (by omega) (fun j hj => absurd hj (Nat.not_lt_zero _))
theorem ev_all_loop2 {L : Nat → Int → Option Bool} {n : Nat} {p : Nat → Bool} {fin : Bool} (m : Nat)
    (step : ∀ i : Nat, m ≤ i → i < n → (∀ j, j < i → p j = true) → p i = true → ∀ r, Ev (fun k => L k ((i + 1 : Nat) : Int)) r → Ev (fun k => L k (i : Int)) r)
    (stop : ∀ i : Nat, m ≤ i → i < n → (∀ j, j < i → p j = true) → p i = false → Ev (fun k => L k (i : Int)) false)
    (done : Ev (fun k => L k (n : Int)) fin) (hm : m ≤ n) (hpm : ∀ j, j < m → p j = true) : Ev (fun k => L k (m : Int)) (allR p n && fin) := by
  have key : ∀ d (i : Nat), m ≤ i → i + d = n → (∀ j, j < i → p j = true) → Ev (fun k => L k (i : Int)) (allR p n && fin) := by
    intro d
    induction d with
    | zero =>
      intro i _ hi hp
      obtain rfl : i = n := by omega
      rw [allR_true hp, Bool.true_and]
      exact done
    | succ d ih =>
      intro i hmi hi hp
      cases h : p i with
      | true =>
        refine step i hmi (by omega) hp h _ (ih (i + 1) (by omega) (by omega) (fun j hj => ?_))
        rcases Nat.lt_or_eq_of_le (Nat.le_of_lt_succ hj) with h1 | h1
        · exact hp j h1
        · rw [h1]; exact h
      | false =>
        rw [allR_false (by omega) h, Bool.false_and]
        exact stop i hmi (by omega) hp h
  exact key (n - m) m (Nat.le_refl _) (by omega) hpm
theorem ev_idx_loop {α : Type} {L : Nat → Int → Option Int} {l : List α} {q : α → Bool}
    (step : ∀ (i : Nat) (hi : i < l.length), q l[i] = false → ∀ k, L (k + 1) (i : Int) = L k ((i + 1 : Nat) : Int))
    (stop : ∀ (i : Nat) (hi : i < l.length), q l[i] = true → ∀ k, L (k + 1) (i : Int) = some (i : Int))
    (done : ∀ k, L (k + 1) (l.length : Int) = some (-1)) : Ev (fun k => L k 0) (idxI q l) := by
  have key : ∀ d (i : Nat), i + d = l.length → (∀ j (hj : j < l.length), j < i → q l[j] = false) → Ev (fun k => L k (i : Int)) (idxI q l) := by
    intro d
    induction d with
    | zero =>
      intro i hi hp
      obtain rfl : i = l.length := by omega
      rw [idxI_none (fun j hj => hp j hj hj)]
      exact Ev.at_ (c := 1) done
    | succ d ih =>
      intro i hi hp
      cases h : q (l[i]'(by omega)) with
      | false =>
        refine Ev.step (step i (by omega) h) (ih (i + 1) (by omega) (fun j hj h2 => ?_))
        rcases Nat.lt_or_eq_of_le (Nat.le_of_lt_succ h2) with h1 | h1
        · exact hp j hj h1
        · subst h1; exact h
      | true =>
        rw [idxI_some (by omega) (fun j hj => hp j (by omega) hj) h]
        exact Ev.at_ (c := 1) (stop i (by omega) h)
  exact key l.length 0 (by omega) (fun j _ hj => absurd hj (Nat.not_lt_zero _))
theorem ev_same_loop {α : Type} {L : Nat → Int → Option Bool} {xs ys : List α} (hl : xs.length = ys.length)
    (step : ∀ (i : Nat) (h1 : i < xs.length) (h2 : i < ys.length), xs[i] = ys[i] → ∀ k, L (k + 1) (i : Int) = L k ((i + 1 : Nat) : Int))
    (stop : ∀ (i : Nat) (h1 : i < xs.length) (h2 : i < ys.length), xs[i] ≠ ys[i] → ∀ k, L (k + 1) (i : Int) = some false)
    (done : ∀ k, L (k + 1) (xs.length : Int) = some true) : ∃ b, Ev (fun k => L k 0) b ∧ (b = true ↔ xs = ys) := by
  have key : ∀ d (i : Nat), i + d = xs.length → xs.take i = ys.take i → ∃ b, Ev (fun k => L k (i : Int)) b ∧ (b = true ↔ xs = ys) := by
    intro d
    induction d with
    | zero =>
      intro i hi hp
      obtain rfl : i = xs.length := by omega
      refine ⟨true, Ev.at_ (c := 1) done, fun _ => ?_, fun _ => rfl⟩
      rw [List.take_length, hl, List.take_length] at hp
      exact hp
    | succ d ih =>
      intro i hi hp
      have h1 : i < xs.length := by omega
      have h2 : i < ys.length := by omega
      rcases Classical.em (xs[i] = ys[i]) with h | h
      · obtain ⟨b, hb, hb2⟩ := ih (i + 1) (by omega) (by rw [List.take_succ_eq_append_getElem h1, List.take_succ_eq_append_getElem h2, hp, h])
        exact ⟨b, Ev.step (step i h1 h2 h) hb, hb2⟩
      · refine ⟨false, Ev.at_ (c := 1) (stop i h1 h2 h), by simp, fun e => absurd (by subst e; rfl) h⟩
  exact key xs.length 0 (by omega) (by simp)
theorem all_allR {α : Type} (q : α → Bool) (z : α) (l : List α) : l.all q = allR (fun j => q (l.getD j z)) l.length := by
  rw [Bool.eq_iff_iff, List.all_eq_true, allR_iff]
  constructor
  · intro h j hj
    rw [List.getD_eq_getElem?_getD, List.getElem?_eq_getElem hj]
    exact h _ (List.getElem_mem hj)
  · intro h x hx
    obtain ⟨j, hj, rfl⟩ := List.mem_iff_getElem.mp hx
    have := h j hj
    rwa [List.getD_eq_getElem?_getD, List.getElem?_eq_getElem hj] at this
theorem allR_and (p q : Nat → Bool) (n : Nat) : allR (fun j => p j && q j) n = (allR p n && allR q n) := by
  rw [Bool.eq_iff_iff, Bool.and_eq_true, allR_iff, allR_iff, allR_iff]
  simp only [Bool.and_eq_true]
  exact ⟨fun h => ⟨fun j hj => (h j hj).1, fun j hj => (h j hj).2⟩, fun h j hj => ⟨h.1 j hj, h.2 j hj⟩⟩
theorem wrap_i {i : Nat} (h : i < 4611686018427387904) : wrap64 ((i : Int) + 1) = ((i + 1 : Nat) : Int) := by unfold wrap64; omega
theorem wrap_2 {i : Int} (h0 : -4611686018427387904 ≤ i) (h : i < 4611686018427387904) : wrap64 (i + 1) = i + 1 := by unfold wrap64; omega
end Go.Proofs.Ytcpljigliklgcaa.Q
end

section
namespace Go.Proofs.Ytcpljigliklgcaa.Q
open Go.RowKit Go.Proofs.YtcpljigliklgcaaW.PrintWords Go.Proofs.YtcpljigliklgcaaW.PrintLast
set_option linter.unusedVariables false
set_option linter.unusedSimpArgs false
theorem toIntS_ev (l : List Int) (h : l.length ≤ 1048576) : Ev (fun k => laws_toIntS.f k l) l := by
  refine Ev.congr (f := fun k => laws_toIntS.l0 k l (List.replicate l.length 0) 0) (fun k => ?_) ?_
  · unfold laws_toIntS.f
    rw [if_pos (by omega), if_pos (by omega)]
    rfl
  · have h2 := ev_map_loop (L := laws_toIntS.l0) (g := fun _ x => some x) (cv := fun x => x) (z := (0 : Int)) (fun _ _ _ _ => rfl) l (by omega) (fun x _ => Ev.now _) (List.replicate l.length 0) (by simp)
    simpa using h2
theorem eqIntS_ev (l : List Int) (hl : l.length ≤ 1048576) : Ev (fun k => laws_eqIntS.f k l l) true := by
  obtain ⟨b, hb, h⟩ := ev_same_loop (L := fun k i => laws_eqIntS.l0 k l l i) (xs := l) (ys := l) rfl (fun i h1 h2 e k => by
    have c1 : (i : Int) < (l.length : Int) := by omega
    simp only [laws_eqIntS.l0, c1, Int.natCast_nonneg, if_true, wrap_i (show i < 4611686018427387904 by omega)]) (fun i h1 h2 e k => absurd rfl e) (fun k => by
    simp only [laws_eqIntS.l0]
    rw [if_neg (by omega)])
  obtain rfl : b = true := h.mpr rfl
  exact Ev.congr (f := fun k => laws_eqIntS.l0 k l l 0) (fun k => by unfold laws_eqIntS.f; rw [if_pos rfl]) hb
theorem szIntS_ev (l : List Int) (hl : l.length ≤ 9223372036854775807) (left : Int) (h0 : 0 ≤ left) (h1 : left ≤ 1048576) :
    ∃ r, laws_szIntS.f l left = some r ∧ r ≤ left ∧ (0 ≤ r → l.length ≤ 1048576) := by
  have hw : wrap64 (left - (l.length : Int)) = left - (l.length : Int) := by unfold wrap64; omega
  unfold laws_szIntS.f
  rw [hw]
  by_cases hn : left - (l.length : Int) < 0
  · exact ⟨-1, by rw [if_pos hn], by omega, by omega⟩
  · exact ⟨left - (l.length : Int), by rw [if_neg hn], by omega, by omega⟩
def cvCommit (x : S209) : S118 := ⟨x.f0, x.f1.map cvEntry⟩
def fitC (x : S209) : Prop := x.f0.length ≤ 1048576 ∧ x.f1.length ≤ 1048576
theorem szCommit_ev (x : S209) (g : good209 x) (left : Int) (h0 : 0 ≤ left) (h1 : left ≤ 1048576) : ∃ r, Ev (fun k => laws_szCommit.f k x.f0 x.f1 left) r ∧ r ≤ left ∧ (0 ≤ r → fitC x) := by
  unfold laws_szCommit.f
  obtain ⟨r, hr, hrl, hrs⟩ := szIntS_ev x.f0 g.1.1 left h0 h1
  simp only [hr, Option.bind_some]
  by_cases hn : r < 0
  · exact ⟨-1, by simp only [hn, if_true]; exact Ev.now _, by omega, by omega⟩
  · obtain ⟨r', hr', hrl', hrs'⟩ := szEntryS_ev x.f1 g.2.1 g.2.2 r (by omega) (by omega)
    by_cases hn' : r' < 0
    · exact ⟨-1, by simp only [hn, if_false]; refine Ev.bind hr' ?_; simp only [hn', if_true]; exact Ev.now _, by omega, by omega⟩
    · exact ⟨r', by simp only [hn, if_false]; refine Ev.bind hr' ?_; simp only [hn', if_false]; exact Ev.now _, by omega, fun h => ⟨hrs (by omega), hrs' h⟩⟩
theorem ev_sz_loop2 {α : Type} {L : Nat → List α → Int → Int → Option Int} {g : Nat → α → Int → Option Int} {z : α} {P : α → Prop}
    (step : ∀ k xs left i, L (k + 1) xs left i = if i < (xs.length : Int) then (if 0 ≤ i then ((g k (xs.getD i.toNat z) left).bind fun t => (if t < 0 then some (-1) else L k xs t (wrap64 (i + 1)))) else none) else some left)
    (xs : List α) (hlen : xs.length ≤ 4611686018427387904) (hg : ∀ x, x ∈ xs → ∀ left : Int, 0 ≤ left → left ≤ 1048576 → ∃ r, Ev (fun k => g k x left) r ∧ r ≤ left ∧ (0 ≤ r → P x)) (left : Int) (h0 : 0 ≤ left) (h1 : left ≤ 1048576) :
    ∃ r, Ev (fun k => L k xs left 0) r ∧ r ≤ left ∧ (0 ≤ r → ∀ x, x ∈ xs → P x) := by
  have key : ∀ d (i : Nat) (left : Int), i + d = xs.length → 0 ≤ left → left ≤ 1048576 → ∃ r, Ev (fun k => L k xs left (i : Int)) r ∧ r ≤ left ∧ (0 ≤ r → ∀ x, x ∈ xs.drop i → P x) := by
    intro d
    induction d with
    | zero =>
      intro i left hi h0 h1
      refine ⟨left, Ev.step (f := fun _ => some left) (fun k => by rw [step, if_neg (by omega)]) (Ev.now left), by omega, fun _ x hx => ?_⟩
      rw [List.drop_eq_nil_of_le (by omega)] at hx
      cases hx
    | succ d ih =>
      intro i left hi h0 h1
      have hl : i < xs.length := by omega
      have hw : wrap64 ((i : Int) + 1) = ((i + 1 : Nat) : Int) := by unfold wrap64; omega
      have hx : xs.getD ((i : Int).toNat) z = xs[i] := by simp [List.getD_eq_getElem?_getD, List.getElem?_eq_getElem hl]
      obtain ⟨t, ht, htl, hP⟩ := hg _ (List.getElem_mem hl) left h0 h1
      have hstep : ∀ k, L (k + 1) xs left (i : Int) = (g k xs[i] left).bind fun t => if t < 0 then some (-1) else L k xs t ((i + 1 : Nat) : Int) := fun k => by rw [step, if_pos (by omega), if_pos (by omega), hx, hw]
      by_cases hn : t < 0
      · refine ⟨-1, Ev.step hstep (Ev.bind ht ?_), by omega, by omega⟩
        simp only [hn, if_true]
        exact Ev.now _
      · obtain ⟨r, hr, hrl, hrP⟩ := ih (i + 1) t (by omega) (by omega) (by omega)
        refine ⟨r, Ev.step hstep (Ev.bind ht ?_), by omega, fun h x hx => ?_⟩
        · simp only [hn, if_false]
          exact hr
        · rw [List.drop_eq_getElem_cons hl] at hx
          rcases List.mem_cons.mp hx with rfl | hx
          · exact hP (by omega)
          · exact hrP h x hx
  have h := key xs.length 0 left (by omega) h0 h1
  simpa using h
theorem szCommitS_ev (l : List S209) (hl : l.length ≤ 9223372036854775807) (hg : ∀ x, x ∈ l → good209 x) (left : Int) (h0 : 0 ≤ left) (h1 : left ≤ 1048576) :
    ∃ r, Ev (fun k => laws_szCommitS.f k l left) r ∧ r ≤ left ∧ (0 ≤ r → l.length ≤ 1048576 ∧ ∀ x, x ∈ l → fitC x) := by
  have hw : wrap64 (left - (l.length : Int)) = left - (l.length : Int) := by unfold wrap64; omega
  by_cases hn : left - (l.length : Int) < 0
  · refine ⟨-1, Ev.congr (f := fun _ => some (-1)) (fun k => ?_) (Ev.now _), by omega, by omega⟩
    unfold laws_szCommitS.f
    rw [hw, if_pos hn]
  · obtain ⟨r, hr, hrl, hrP⟩ := ev_sz_loop2 (L := laws_szCommitS.l0) (g := fun k x left => laws_szCommit.f k x.f0 x.f1 left) (z := z209) (P := fitC) (fun _ _ _ _ => rfl) l (by omega) (fun x hx left h0 h1 => szCommit_ev x (hg x hx) left h0 h1) (left - (l.length : Int)) (by omega) (by omega)
    refine ⟨r, Ev.congr (f := fun k => laws_szCommitS.l0 k l (left - (l.length : Int)) 0) (fun k => ?_) hr, by omega, fun h => ⟨by omega, hrP h⟩⟩
    unfold laws_szCommitS.f
    rw [hw, if_neg hn]
theorem toCommit_ev (x : S209) (h : fitC x) : Ev (fun k => laws_toCommit.f k x.f0 x.f1) (x.f0, x.f1.map cvEntry) := by
  unfold laws_toCommit.f
  exact Ev.bind (toIntS_ev _ h.1) (Ev.bind (toEntryS_ev _ h.2) (Ev.now _))
theorem toCommitS_ev (l : List S209) (h : l.length ≤ 1048576) (hf : ∀ x, x ∈ l → fitC x) : Ev (fun k => laws_toCommitS.f k l) (l.map cvCommit) := by
  refine Ev.congr (f := fun k => laws_toCommitS.l0 k l (List.replicate l.length z118) 0) (fun k => ?_) ?_
  · unfold laws_toCommitS.f
    rw [if_pos (by omega), if_pos (by omega)]
    rfl
  · exact ev_map_loop (L := laws_toCommitS.l0) (g := fun k x => (laws_toCommit.f k x.f0 x.f1).bind fun bt => some (⟨bt.1, bt.2⟩ : S118)) (cv := cvCommit) (z := z209) (fun k xs acc i => by
      simp only [laws_toCommitS.l0, Option.bind_assoc, Option.bind_some]
      rfl) l (by omega) (fun x hx => Ev.bind (toCommit_ev x (hf x hx)) (Ev.now _)) _ (by simp)
theorem eqCommitS_ev (l : List S118) (h : l.length ≤ 1048576) (hf : ∀ x, x ∈ l → x.f0.length ≤ 1048576 ∧ x.f1.length ≤ 1048576) : Ev (fun k => laws_eqCommitS.f k l l) true := by
  refine Ev.congr (f := fun k => laws_eqCommitS.l0 k l l 0) (fun k => ?_) ?_
  · unfold laws_eqCommitS.f
    rw [if_pos rfl]
  · exact ev_refl_loop (L := laws_eqCommitS.l0) (g := fun k x y => laws_eqCommit.f k x.f0 x.f1 y.f0 y.f1) (z := z118) (fun _ _ _ _ => rfl) l (by omega) (fun x hx => by
      unfold laws_eqCommit.f
      refine Ev.bind (eqIntS_ev _ (hf x hx).1) ?_
      simp only [if_true]
      refine Ev.bind (eqEntryS_ev _ (hf x hx).2) ?_
      simp only [if_true]
      exact Ev.now _)
theorem fit_cv {l : List S209} (hf : ∀ x, x ∈ l → fitC x) : ∀ x, x ∈ l.map cvCommit → x.f0.length ≤ 1048576 ∧ x.f1.length ≤ 1048576 := by
  intro x hx
  obtain ⟨y, hy, rfl⟩ := List.mem_map.mp hx
  exact ⟨(hf y hy).1, by simpa [cvCommit] using (hf y hy).2⟩
end Go.Proofs.Ytcpljigliklgcaa.Q
end

section
namespace Go.Proofs.Ytcpljigliklgcaa.Q
open Go.RowKit Go.Proofs.YtcpljigliklgcaaW.PrintWords Go.Proofs.YtcpljigliklgcaaW.PrintLast
set_option linter.unusedVariables false
def cvRef (x : S211) : S178 := ⟨x.f0, x.f1, x.f2, x.f3⟩
theorem toRefS_ev (l : List S211) (h : l.length ≤ 1048576) : Ev (fun k => laws_toRefS.f k l) (l.map cvRef) := by
  refine Ev.congr (f := fun k => laws_toRefS.l0 k l (List.replicate l.length z178) 0) (fun k => ?_) ?_
  · unfold laws_toRefS.f
    rw [if_pos (by omega), if_pos (by omega)]
    rfl
  · exact ev_map_loop (L := laws_toRefS.l0) (g := fun _ x => some (cvRef x)) (z := z211) (fun _ _ _ _ => rfl) l (by omega) (fun x _ => Ev.now _) _ (by simp)
theorem eqRef_refl (x : S178) : laws_eqRef.f x.f0 x.f1 x.f2 x.f3 x.f0 x.f1 x.f2 x.f3 = some true := by
  unfold laws_eqRef.f
  simp
theorem eqRefS_ev (l : List S178) (h : l.length ≤ 1048576) : Ev (fun k => laws_eqRefS.f k l l) true := by
  refine Ev.congr (f := fun k => laws_eqRefS.l0 k l l 0) (fun k => ?_) ?_
  · unfold laws_eqRefS.f
    rw [if_pos rfl]
  · exact ev_refl_loop (L := laws_eqRefS.l0) (g := fun _ x y => laws_eqRef.f x.f0 x.f1 x.f2 x.f3 y.f0 y.f1 y.f2 y.f3) (z := z178) (fun _ _ _ _ => rfl) l (by omega) (fun x _ => Ev.congr (fun _ => eqRef_refl x) (Ev.now _))
theorem szRefS_ev (l : List S211) (hl : l.length ≤ 9223372036854775807) (hg : ∀ x, x ∈ l → good211 x) (left : Int) (h0 : 0 ≤ left) (h1 : left ≤ 1048576) :
    ∃ r, Ev (fun k => laws_szRefS.f k l left) r ∧ r ≤ left ∧ (0 ≤ r → l.length ≤ 1048576) := by
  have hw : wrap64 (left - (l.length : Int)) = left - (l.length : Int) := by unfold wrap64; omega
  by_cases hn : left - (l.length : Int) < 0
  · refine ⟨-1, Ev.congr (f := fun _ => some (-1)) (fun k => ?_) (Ev.now _), by omega, by omega⟩
    unfold laws_szRefS.f
    rw [hw, if_pos hn]
  · obtain ⟨r, hr, hrl⟩ := ev_sz_loop (L := laws_szRefS.l0) (g := fun _ x left => laws_szRef.f x.f0 x.f1 x.f2 x.f3 left) (z := z211) (fun _ _ _ _ => rfl) l (by omega) (fun x hx left h0 h1 => by
      have hsz : x.f0.size ≤ 9223372036854775807 := (hg x hx).1
      have hw2 : wrap64 (left - (x.f0.size : Int)) = left - (x.f0.size : Int) := by unfold wrap64; omega
      by_cases h2 : left - (x.f0.size : Int) < 0
      · refine ⟨-1, Ev.congr (f := fun _ => some (-1)) (fun k => ?_) (Ev.now _), by omega⟩
        unfold laws_szRef.f
        rw [hw2, if_pos h2]
      · refine ⟨left - (x.f0.size : Int), Ev.congr (f := fun _ => some (left - (x.f0.size : Int))) (fun k => ?_) (Ev.now _), by omega⟩
        unfold laws_szRef.f
        rw [hw2, if_neg h2]) (left - (l.length : Int)) (by omega) (by omega)
    refine ⟨r, Ev.congr (f := fun k => laws_szRefS.l0 k l (left - (l.length : Int)) 0) (fun k => ?_) hr, by omega, by omega⟩
    unfold laws_szRefS.f
    rw [hw, if_neg hn]
end Go.Proofs.Ytcpljigliklgcaa.Q
end

section
namespace Go.Proofs.Ytcpljigliklgcaa.Q
open Go.RowKit Go.Proofs.YtcpljigliklgcaaW.PrintWords Go.Proofs.YtcpljigliklgcaaW.PrintLast
theorem isValue_f (n : Int) : impl_isValue.f n = some (inB n (-1000000) 1000000) := by
  unfold impl_isValue.f impl_within.f inB
  by_cases h : (-1000000 : Int) ≤ n <;> simp [h]
theorem mapOK_l0 (l : List S51) (hlen : l.length ≤ 4611686018427387904) (d : Nat) : ∀ i : Nat, i + d = l.length → (∀ j, j < i → entAt l j = true) → Ev (fun k => impl_MapOK.l0 k l l (l.length : Int) (i : Int)) (mapB l) := by
  induction d with
  | zero =>
    intro i hi hp
    have e : mapB l = decide ((l.length : Int) ≤ 12) := by
      unfold mapB
      rw [allR_true (fun j hj => hp j (by omega)), Bool.and_true]
      by_cases h : l.length ≤ 12
      · rw [decide_eq_true h, decide_eq_true (by omega)]
      · rw [decide_eq_false h, decide_eq_false (by omega)]
    rw [e]
    exact Ev.step (f := fun _ => some (decide ((l.length : Int) ≤ 12))) (fun k => by simp only [impl_MapOK.l0]; rw [if_neg (by omega)]) (Ev.now _)
  | succ d ih =>
    intro i hi hp
    have hw : wrap64 ((i : Int) + 1) = ((i + 1 : Nat) : Int) := by unfold wrap64; omega
    have hbad : entAt l i = false → mapB l = false := fun h => by
      unfold mapB
      rw [allR_false (j := i) (by omega) h, Bool.and_false]
    have hgo : entAt l i = true → Ev (fun k => impl_MapOK.l0 k l l (l.length : Int) ((i + 1 : Nat) : Int)) (mapB l) := fun h => ih (i + 1) (by omega) (fun j hj => by
      by_cases e : j = i
      · rw [e]; exact h
      · exact hp j (by omega))
    have E : entAt l i = (nameB (rd_T51 l (i : Int)).f0 && inB (rd_T51 l (i : Int)).f1 (-1000000) 1000000 && (i == 0 || sblt (rd_T51 l ((i : Int) - 1)).f0 (rd_T51 l (i : Int)).f0)) := rfl
    have c1 : (i : Int) < (l.length : Int) := by omega
    have c2 : (0 : Int) ≤ (i : Int) := by omega
    cases hN : nameB (rd_T51 l (i : Int)).f0 with
    | false =>
      rw [hbad (by rw [E, hN]; rfl)]
      refine Ev.step (f := fun _ => some false) (fun k => ?_) (Ev.now _)
      simp only [impl_MapOK.l0, impl_NameOK.f, hN, if_pos c1, if_pos c2, Option.bind_some, Bool.false_eq_true, if_false]
    | true =>
      cases hV : inB (rd_T51 l (i : Int)).f1 (-1000000) 1000000 with
      | false =>
        rw [hbad (by rw [E, hN, hV]; rfl)]
        refine Ev.step (f := fun _ => some false) (fun k => ?_) (Ev.now _)
        simp only [impl_MapOK.l0, impl_NameOK.f, isValue_f, hN, hV, if_pos c1, if_pos c2, Option.bind_some, Bool.false_eq_true, if_false, if_true]
      | true =>
        by_cases hz : i = 0
        · have hg := hgo (by rw [E, hN, hV]; simp [hz])
          refine Ev.step (fun k => ?_) hg
          have c3 : ¬ ((i : Int) > 0) := by omega
          simp only [impl_MapOK.l0, impl_NameOK.f, isValue_f, hN, hV, if_pos c1, if_pos c2, if_neg c3, Option.bind_some, if_true, hw]
        · have c3 : (i : Int) > 0 := by omega
          have hw2 : wrap64 ((i : Int) - 1) = (i : Int) - 1 := by unfold wrap64; omega
          have c4 : (0 : Int) ≤ (i : Int) - 1 := by omega
          have c5 : (i : Int) - 1 < (l.length : Int) := by omega
          have z : (i == 0) = false := by simp [hz]
          cases hS : sblt (rd_T51 l ((i : Int) - 1)).f0 (rd_T51 l (i : Int)).f0 with
          | false =>
            rw [hbad (by rw [E, hN, hV, hS, z]; rfl)]
            have hS1 : Op.bytesLess (rd_T51 l ((i : Int) - 1)).f0.toList (rd_T51 l (i : Int)).f0.toList = false := hS
            refine Ev.step (f := fun _ => some false) (fun k => ?_) (Ev.now _)
            simp only [impl_MapOK.l0, impl_NameOK.f, isValue_f, hN, hV, hS1, hw2, if_pos c1, if_pos c2, if_pos c3, if_pos c4, if_pos c5, Option.bind_some, if_true, Bool.false_eq_true, if_false]
          | true =>
            have hg := hgo (by rw [E, hN, hV, hS]; simp)
            have hS1 : Op.bytesLess (rd_T51 l ((i : Int) - 1)).f0.toList (rd_T51 l (i : Int)).f0.toList = true := hS
            refine Ev.step (fun k => ?_) hg
            simp only [impl_MapOK.l0, impl_NameOK.f, isValue_f, hN, hV, hS1, hw2, if_pos c1, if_pos c2, if_pos c3, if_pos c4, if_pos c5, Option.bind_some, if_true, hw]
theorem mapOK_ev (l : List S51) (hlen : l.length ≤ 4611686018427387904) : Ev (fun k => impl_MapOK.f k l) (mapB l) := mapOK_l0 l hlen l.length 0 (by omega) (fun j hj => absurd hj (Nat.not_lt_zero _))
end Go.Proofs.Ytcpljigliklgcaa.Q
end

section
namespace Go.Proofs.Ytcpljigliklgcaa.Q
open Go.RowKit Go.Proofs.YtcpljigliklgcaaW.PrintWords Go.Proofs.YtcpljigliklgcaaW.PrintLast
theorem l00Word_ev (s : ByteArray) : Ev (fun k => spec_l00Word.f k s) (nameB s) := Ev.of (fun k => spec_l00Word.mono s k) (l00Word_f s)
theorem l01In_is (a b c : Int) : spec_l01In.f a b c = some (inB a b c) := by
  unfold spec_l01In.f inB
  by_cases h : b ≤ a <;> simp [h]
end Go.Proofs.Ytcpljigliklgcaa.Q
end

section
namespace Go.Proofs.Ytcpljigliklgcaa.Q
open Go.RowKit Go.Proofs.YtcpljigliklgcaaW.PrintWords Go.Proofs.YtcpljigliklgcaaW.PrintLast
set_option linter.unusedVariables false
set_option linter.unusedSimpArgs false
theorem rdCommit {l : List S118} {i : Nat} (h : i < l.length) : rd_T118 l (i : Int) = l[i] := by
  simp [rd_T118, List.getD_eq_getElem?_getD, List.getElem?_eq_getElem h]
def commitB (n : Nat) (ps : List Int) (m : List S51) : Bool :=
  mapB m && match ps with
  | [] => n == 0
  | [a] => n != 0 && inB a 1 n
  | [a, b] => n != 0 && (inB a 1 n && (inB b 1 n && b != a))
  | _ => false
def storeB (l : List S118) : Bool := inB l.length 1 60 && allR (fun i => commitB i (rd_T118 l (i : Int)).f0 (rd_T118 l (i : Int)).f1) l.length
theorem nat_eq0 (n : Nat) : ((n : Int) == 0) = (n == 0) := by
  cases n with
  | zero => rfl
  | succ n =>
    have h1 : (((n + 1 : Nat) : Int) == 0) = false := by rw [beq_eq_false_iff_ne]; omega
    rw [h1]; rfl
theorem l03Commit_ev (st : List S118) (ps : List Int) (m : List S51) : Ev (fun k => spec_l03Commit.f k st ps m) (commitB st.length ps m) := by
  unfold commitB
  have w0 : wrap64 (0 + 1) = 1 := by unfold wrap64; omega
  have w1 : wrap64 (1 + 1) = 2 := by unfold wrap64; omega
  cases hm : mapB m with
  | false =>
    refine Ev.at_ (c := 1) (fun k => ?_)
    simp only [spec_l03Commit.f, spec_l01OK.f, Option.bind_some, hm, Bool.false_eq_true, if_false, spec_l03Commit.j0, if_true, Bool.false_and]
  | true =>
    match ps with
    | [] =>
      refine Ev.at_ (c := 2) (fun k => ?_)
      simp only [spec_l03Commit.f, spec_l01OK.f, Option.bind_some, hm, if_true, nat_eq0, List.length_nil, spec_l03Commit.j0, spec_l03Commit.l0]
      cases st.length == 0 <;> simp
    | [a] =>
      refine Ev.at_ (c := 4) (fun k => ?_)
      have r0 : rd [a] 0 = a := rfl
      simp only [spec_l03Commit.f, spec_l01OK.f, Option.bind_some, hm, if_true, nat_eq0, List.length_cons, List.length_nil, spec_l03Commit.j0, spec_l03Commit.l0, l01In_is, r0, w0, bne]
      cases st.length == 0 <;> cases inB a 1 st.length <;> simp
    | [a, b] =>
      refine Ev.at_ (c := 5) (fun k => ?_)
      have r0 : rd [a, b] 0 = a := rfl
      have r1 : rd [a, b] 1 = b := rfl
      simp only [spec_l03Commit.f, spec_l01OK.f, Option.bind_some, hm, if_true, nat_eq0, List.length_cons, List.length_nil, spec_l03Commit.j0, spec_l03Commit.l0, l01In_is, r0, r1, w0, w1, bne]
      by_cases hab : b = a
      · cases st.length == 0 <;> cases inB a 1 st.length <;> cases inB b 1 st.length <;> simp [hab]
      · cases st.length == 0 <;> cases inB a 1 st.length <;> cases inB b 1 st.length <;> simp [hab]
    | a :: b :: c :: r =>
      refine Ev.at_ (c := 1) (fun k => ?_)
      have h3 : (((a :: b :: c :: r).length : Nat) : Int) > 2 := by simp only [List.length_cons]; omega
      simp only [spec_l03Commit.f, spec_l01OK.f, Option.bind_some, hm, if_true, h3, spec_l03Commit.j0, Bool.and_false]
theorem isAt_ev (n : Nat) (hn : n ≤ 1048576) (ps : List Int) (m : List S51) (hm : m.length ≤ 1048576) : Ev (fun k => impl_Commit_isAt.f k ps m ((n : Int) + 1)) (commitB n ps m) := by
  unfold impl_Commit_isAt.f commitB
  refine Ev.bind (mapOK_ev m (by omega)) ?_
  have e1 : ((n : Int) + 1 == 1) = (n == 0) := by
    cases n with
    | zero => rfl
    | succ n =>
      have h1 : (((n + 1 : Nat) : Int) + 1 == 1) = false := by rw [beq_eq_false_iff_ne]; omega
      rw [h1]; rfl
  have l1 : (-9223372036854775807 : Int) ≤ (n : Int) + 1 := by omega
  have l2 : (n : Int) + 1 ≤ 9223372036854775807 := by omega
  have l3 : (n : Int) + 1 - 1 = (n : Int) := by omega
  cases mapB m with
  | false => simp only [Bool.false_eq_true, if_false, Bool.false_and]; exact Ev.now _
  | true =>
    simp only [if_true, Bool.true_and, areAllint_isAt.f, l1, l2, l3, e1]
    match ps with
    | [] =>
      refine Ev.at_ (c := 0) (fun k => ?_)
      cases hz : n == 0 <;> simp [hz]
    | [a] =>
      refine Ev.at_ (c := 0) (fun k => ?_)
      cases hz : n == 0 <;> cases h1 : inB a 1 n <;> simp [hz, h1, bne]
    | [a, b] =>
      refine Ev.at_ (c := 0) (fun k => ?_)
      have r0 : rd [a, b] 0 = a := rfl
      have r1 : rd [a, b] 1 = b := rfl
      by_cases hab : a = b
      · subst hab
        cases hz : n == 0 <;> simp [hz, r0, r1, bne]
      · have hba : ¬ b = a := fun h => hab h.symm
        cases hz : n == 0 <;> cases h1 : inB a 1 n <;> cases h2 : inB b 1 n <;> simp [hz, r0, r1, hab, hba, h1, h2, bne]
    | a :: b :: c :: r =>
      have h3 : (((a :: b :: c :: r).length : Nat) : Int) > 2 := by simp only [List.length_cons]; omega
      simp only [h3, if_true]
      exact Ev.now _
theorem l03OK_ev (l : List S118) : Ev (fun k => spec_l03OK.f k l) (storeB l) := by
  unfold spec_l03OK.f storeB
  simp only [l01In_is, Option.bind_some]
  cases hn : inB l.length 1 60 with
  | false => simp only [Bool.false_eq_true, if_false, Bool.false_and]; exact Ev.now _
  | true =>
    have h60 : l.length ≤ 60 := by
      unfold inB at hn
      simp only [Bool.and_eq_true, decide_eq_true_eq] at hn
      omega
    simp only [if_true, Bool.true_and]
    have h := ev_all_loop2 (L := fun k i => spec_l03OK.l0 k l i) (n := l.length) (p := fun i => commitB i (rd_T118 l (i : Int)).f0 (rd_T118 l (i : Int)).f1) (fin := true) 0 (fun i _ hi _ hp r hr => by
      have c1 : (i : Int) < (l.length : Int) := by omega
      have c2 : (i : Int) ≤ (l.length : Int) := by omega
      have hc := l03Commit_ev (l.take i) (rd_T118 l (i : Int)).f0 (rd_T118 l (i : Int)).f1
      rw [List.length_take, Nat.min_eq_left (by omega), hp] at hc
      refine Ev.succ (g := fun k => spec_l03OK.l0 k l (i : Int)) ?_
      simp only [spec_l03OK.l0, c1, c2, Int.natCast_nonneg, if_true, Int.toNat_natCast, wrap_i (show i < 4611686018427387904 by omega)]
      refine Ev.bind hc ?_
      simp only [if_true]
      exact hr) (fun i _ hi _ hp => by
      have c1 : (i : Int) < (l.length : Int) := by omega
      have c2 : (i : Int) ≤ (l.length : Int) := by omega
      have hc := l03Commit_ev (l.take i) (rd_T118 l (i : Int)).f0 (rd_T118 l (i : Int)).f1
      rw [List.length_take, Nat.min_eq_left (by omega), hp] at hc
      refine Ev.succ (g := fun k => spec_l03OK.l0 k l (i : Int)) ?_
      simp only [spec_l03OK.l0, c1, c2, Int.natCast_nonneg, if_true, Int.toNat_natCast]
      refine Ev.bind hc ?_
      simp only [Bool.false_eq_true, if_false]
      exact Ev.now _) (Ev.at_ (c := 1) (fun k => by
      simp only [spec_l03OK.l0]
      rw [if_neg (by omega)])) (Nat.zero_le _) (fun j hj => absurd hj (Nat.not_lt_zero _))
    rw [Bool.and_true] at h
    exact h
theorem areCommits_ev (l : List S118) (hl : l.length ≤ 1048576) (hf : ∀ x, x ∈ l → x.f1.length ≤ 1048576) : Ev (fun k => impl_areCommits.f k l) (allR (fun i => commitB i (rd_T118 l (i : Int)).f0 (rd_T118 l (i : Int)).f1) l.length && decide ((l.length : Int) ≤ 60)) := by
  exact ev_all_loop2 (L := fun k i => impl_areCommits.l0 k l l (l.length : Int) i) (n := l.length) (p := fun i => commitB i (rd_T118 l (i : Int)).f0 (rd_T118 l (i : Int)).f1) 0 (fun i _ hi _ hp r hr => by
    have c1 : (i : Int) < (l.length : Int) := by omega
    have w := wrap_2 (i := (i : Int)) (by omega) (by omega)
    have hc := isAt_ev i (by omega) (rd_T118 l (i : Int)).f0 (rd_T118 l (i : Int)).f1 (by rw [rdCommit hi]; exact hf _ (List.getElem_mem hi))
    rw [hp] at hc
    refine Ev.succ (g := fun k => impl_areCommits.l0 k l l (l.length : Int) (i : Int)) ?_
    simp only [impl_areCommits.l0, c1, Int.natCast_nonneg, if_true, w]
    refine Ev.bind hc ?_
    simp only [if_true]
    exact hr) (fun i _ hi _ hp => by
    have c1 : (i : Int) < (l.length : Int) := by omega
    have w := wrap_2 (i := (i : Int)) (by omega) (by omega)
    have hc := isAt_ev i (by omega) (rd_T118 l (i : Int)).f0 (rd_T118 l (i : Int)).f1 (by rw [rdCommit hi]; exact hf _ (List.getElem_mem hi))
    rw [hp] at hc
    refine Ev.succ (g := fun k => impl_areCommits.l0 k l l (l.length : Int) (i : Int)) ?_
    simp only [impl_areCommits.l0, c1, Int.natCast_nonneg, if_true, w]
    refine Ev.bind hc ?_
    simp only [Bool.false_eq_true, if_false]
    exact Ev.now _) (Ev.at_ (c := 1) (fun k => by
    simp only [impl_areCommits.l0]
    rw [if_neg (by omega)])) (Nat.zero_le _) (fun j hj => absurd hj (Nat.not_lt_zero _))
theorem storeOK_ev (l : List S118) (hl : l.length ≤ 1048576) (hf : ∀ x, x ∈ l → x.f1.length ≤ 1048576) : Ev (fun k => impl_StoreOK.f k l) (storeB l) := by
  unfold impl_StoreOK.f storeB
  by_cases h0 : (l.length : Int) > 0
  · have hi : inB l.length 1 60 = decide ((l.length : Int) ≤ 60) := by
      unfold inB
      rw [decide_eq_true (by omega), Bool.true_and]
    simp only [h0, if_true, impl_Commit_243.f, Option.bind_some]
    by_cases h4 : (l.length : Int) ≤ 4096
    · simp only [h4, decide_true, if_true]
      rw [hi, Bool.and_comm]
      exact Ev.bind (areCommits_ev l hl hf) (Ev.now _)
    · simp only [h4, decide_false, Bool.false_eq_true, if_false]
      rw [hi, decide_eq_false (by omega), Bool.false_and]
      exact Ev.now _
  · have hi : inB l.length 1 60 = false := by
      unfold inB
      rw [decide_eq_false (by omega), Bool.false_and]
    simp only [h0, if_false, hi, Bool.false_and]
    exact Ev.now _
end Go.Proofs.Ytcpljigliklgcaa.Q
end

section
namespace Go.Proofs.Ytcpljigliklgcaa.Q
open Go.RowKit Go.Proofs.YtcpljigliklgcaaW.PrintWords Go.Proofs.YtcpljigliklgcaaW.PrintLast
set_option linter.unusedVariables false
set_option linter.unusedSimpArgs false
theorem rdRef {l : List S178} {i : Nat} (h : i < l.length) : rd_T178 l (i : Int) = l[i] := by
  simp [rd_T178, List.getD_eq_getElem?_getD, List.getElem?_eq_getElem h]
theorem l04At_ev (l : List S178) (n : ByteArray) (hlen : l.length ≤ 1048576) : Ev (fun k => spec_l04At.f k l n) (placeI l n) := by
  refine ev_idx_loop (L := fun k i => spec_l04At.l0 k l n i) (q := isNm n) ?_ ?_ ?_
  · intro i hi hq k
    have hq2 : ¬ (l[i].f0.toList = n.toList) := by simpa [isNm] using hq
    have c1 : (i : Int) < (l.length : Int) := by omega
    simp only [spec_l04At.l0, rdRef hi, c1, hq2, if_true, if_false, Int.natCast_nonneg, wrap_i (show i < 4611686018427387904 by omega)]
  · intro i hi hq k
    have hq2 : l[i].f0.toList = n.toList := by simpa [isNm] using hq
    have c1 : (i : Int) < (l.length : Int) := by omega
    simp only [spec_l04At.l0, rdRef hi, c1, hq2, if_true, Int.natCast_nonneg]
  · intro k
    simp only [spec_l04At.l0]
    rw [if_neg (by omega)]
theorem placeI_self {l : List S178} {i : Nat} (hi : i < l.length) : (placeI l l[i].f0 = (i : Int)) ↔ placeI (l.take i) l[i].f0 < 0 := by
  have hself : isNm l[i].f0 l[i] = true := by simp [isNm]
  have e : l = l.take i ++ l[i] :: l.drop (i + 1) := by rw [← List.drop_eq_getElem_cons hi, List.take_append_drop]
  cases h : (l.take i).findIdx? (isNm l[i].f0) with
  | none =>
    have h1 : placeI (l.take i) l[i].f0 = -1 := by unfold placeI idxI; rw [h]
    have h0 := List.findIdx?_eq_none_iff.mp h
    have h2 : placeI l l[i].f0 = (i : Int) := idxI_some hi (fun j hj => by
      have hm : l[j] ∈ l.take i := List.mem_take_iff_getElem.mpr ⟨j, by omega, rfl⟩
      simpa using h0 _ hm) hself
    rw [h1, h2]
    simp
  | some j =>
    obtain ⟨hj, hp, hmin⟩ := List.findIdx?_eq_some_iff_getElem.mp h
    have hj2 : j < i := by rw [List.length_take] at hj; omega
    have h1 : placeI (l.take i) l[i].f0 = (j : Int) := by unfold placeI idxI; rw [h]
    have h2 : placeI l l[i].f0 = (j : Int) := idxI_some (by omega) (fun k hk => by
      have := hmin k hk
      simpa using this) (by simpa using hp)
    rw [h1, h2]
    constructor
    · intro h3
      omega
    · intro h3
      omega
def refAt (l : List S178) (i : Nat) : Bool := refB (rd_T178 l (i : Int)) && decide (placeI (l.take i) (rd_T178 l (i : Int)).f0 < 0)
theorem refsB_at (l : List S178) : refsB l = (decide (l.length ≤ 8) && allR (refAt l) l.length) := by
  unfold refsB refAt
  rw [allR_and, all_allR refB z178 l]
  rfl
theorem l04OK_ev (l : List S178) : Ev (fun k => spec_l04OK.f k l) (refsB l) := by
  by_cases h8 : l.length ≤ 8
  · have e : refsB l = (allR (refAt l) l.length && true) := by rw [refsB_at, decide_eq_true h8, Bool.true_and, Bool.and_true]
    rw [e]
    refine Ev.congr (f := fun k => spec_l04OK.l0 k l ((0 : Nat) : Int)) (fun k => by unfold spec_l04OK.f; rw [if_neg (by omega)]; rfl) ?_
    refine ev_all_loop2 (L := fun k i => spec_l04OK.l0 k l i) (p := refAt l) 0 ?_ ?_ (Ev.step (f := fun _ => some true) (fun k => by simp only [spec_l04OK.l0]; rw [if_neg (by omega)]) (Ev.now _)) (Nat.zero_le _) (fun j hj => absurd hj (Nat.not_lt_zero _))
    · intro i _ hi _ hp r hr
      have c1 : (i : Int) < (l.length : Int) := by omega
      have hw := wrap_i (show i < 4611686018427387904 by omega)
      unfold refAt at hp
      rw [rdRef hi] at hp
      simp only [Bool.and_eq_true, decide_eq_true_eq, refB] at hp
      obtain ⟨⟨⟨h1, h2⟩, h3⟩, h4⟩ := hp
      have h4' := (placeI_self hi).mpr h4
      refine Ev.succ (g := fun k => spec_l04OK.l0 k l (i : Int)) ?_
      simp only [spec_l04OK.l0, rdRef hi, c1, Int.natCast_nonneg, if_true]
      refine Ev.bind (h1 ▸ l00Word_ev _) ?_
      simp only [if_true, l01In_is, h2, Option.bind_some]
      refine Ev.bind (h4' ▸ l04At_ev l l[i].f0 (by omega)) ?_
      simp only [if_true, hw]
      cases h5 : l[i].f3 with
      | true =>
        rw [h5] at h3
        simp only [if_true, beq_iff_eq] at h3
        simp only [h3, if_true]
        exact hr
      | false =>
        rw [h5] at h3
        simp only [Bool.false_eq_true, if_false] at h3
        simp only [Bool.false_eq_true, if_false, h3, Option.bind_some, if_true]
        exact hr
    · intro i _ hi _ hp
      have c1 : (i : Int) < (l.length : Int) := by omega
      unfold refAt at hp
      rw [rdRef hi] at hp
      refine Ev.succ (g := fun k => spec_l04OK.l0 k l (i : Int)) ?_
      simp only [spec_l04OK.l0, rdRef hi, c1, Int.natCast_nonneg, if_true]
      refine Ev.bind (l00Word_ev _) ?_
      cases h1 : nameB l[i].f0 with
      | false => simp only [Bool.false_eq_true, if_false]; exact Ev.now _
      | true =>
        simp only [if_true, l01In_is, Option.bind_some]
        cases h2 : inB l[i].f2 1 1000000 with
        | false => simp only [Bool.false_eq_true, if_false]; exact Ev.now _
        | true =>
          simp only [if_true]
          refine Ev.bind (l04At_ev l l[i].f0 (by omega)) ?_
          by_cases h4 : placeI l l[i].f0 = (i : Int)
          · have h4' := (placeI_self hi).mp h4
            simp only [refB, h1, h2, Bool.true_and, decide_eq_true h4', Bool.and_true] at hp
            simp only [h4, if_true]
            cases h5 : l[i].f3 with
            | true =>
              rw [h5] at hp
              simp only [if_true, beq_eq_false_iff_ne] at hp
              simp only [if_true, hp, if_false]
              exact Ev.now _
            | false =>
              rw [h5] at hp
              simp only [Bool.false_eq_true, if_false] at hp
              simp only [Bool.false_eq_true, if_false, hp]
              exact Ev.now _
          · simp only [h4, if_false]
            exact Ev.now _
  · have e : refsB l = false := by unfold refsB; rw [decide_eq_false h8, Bool.false_and]
    rw [e]
    exact Ev.congr (f := fun _ => some false) (fun k => by unfold spec_l04OK.f; rw [if_pos (by omega)]) (Ev.now _)
theorem refsOK_ev (l : List S178) : Ev (fun k => impl_RefsOK.f k l) (refsB l) := by
  by_cases h8 : l.length ≤ 8
  · have n8 : ¬ ((l.length : Int) > 8) := by omega
    cases ha : l.all refB with
    | false =>
      have e : refsB l = false := by unfold refsB; rw [ha, Bool.false_and, Bool.and_false]
      rw [e]
      refine Ev.at_ (c := 1) (fun k => ?_)
      simp only [impl_RefsOK.f, n8, if_false, areAllRef_isRef.f, ha, Option.bind_some, impl_RefsOK.j0, Bool.not_false, if_true]
    | true =>
      have e : refsB l = (allR (fun j => decide (placeI (l.take j) (rd_T178 l (j : Int)).f0 < 0)) l.length && true) := by unfold refsB; rw [decide_eq_true h8, ha, Bool.true_and, Bool.true_and, Bool.and_true]
      rw [e]
      refine Ev.step (f := fun k => impl_RefsOK.l0 k l l (l.length : Int) 0) (fun k => ?_) ?_
      · simp only [impl_RefsOK.f, n8, if_false, areAllRef_isRef.f, ha, Option.bind_some, impl_RefsOK.j0, Bool.not_true, Bool.false_eq_true]
      · refine ev_all_loop (L := fun k i => impl_RefsOK.l0 k l l (l.length : Int) i) ?_ ?_ ?_
        · intro i hi _ hp
          refine ⟨1, 0, fun k => ?_⟩
          have c1 : (i : Int) < (l.length : Int) := by omega
          have c2 : (i : Int) ≤ (l.length : Int) := by omega
          have c3 : ¬ (placeI (l.take i) (rd_T178 l (i : Int)).f0 ≥ 0) := by simp only [decide_eq_true_eq] at hp; omega
          simp only [impl_RefsOK.l0, c1, c2, Int.natCast_nonneg, if_true, impl_place.f, Option.bind_some, Int.toNat_natCast, c3, if_false, wrap_i (show i < 4611686018427387904 by omega), Nat.add_zero]
        · intro i hi _ hp
          refine ⟨1, fun k => ?_⟩
          have c1 : (i : Int) < (l.length : Int) := by omega
          have c2 : (i : Int) ≤ (l.length : Int) := by omega
          have c3 : placeI (l.take i) (rd_T178 l (i : Int)).f0 ≥ 0 := by simp only [decide_eq_false_iff_not] at hp; omega
          simp only [impl_RefsOK.l0, c1, c2, Int.natCast_nonneg, if_true, impl_place.f, Option.bind_some, Int.toNat_natCast, c3]
        · refine Ev.at_ (c := 1) (fun k => ?_)
          simp only [impl_RefsOK.l0]
          rw [if_neg (by omega)]
  · have e : refsB l = false := by unfold refsB; rw [decide_eq_false h8, Bool.false_and]
    rw [e]
    refine Ev.at_ (c := 1) (fun k => ?_)
    unfold impl_RefsOK.f
    rw [if_pos (by omega)]
    simp only [impl_RefsOK.j0, if_true]
end Go.Proofs.Ytcpljigliklgcaa.Q
end

section
namespace Go.Proofs.Ytcpljigliklgcaa.Q
open Go.RowKit Go.Proofs.YtcpljigliklgcaaW.PrintWords Go.Proofs.YtcpljigliklgcaaW.PrintLast
set_option linter.unusedVariables false
set_option linter.unusedSimpArgs false
theorem szBase_ev (a : List S209) (b : List S211) (ha : a.length ≤ 9223372036854775807 ∧ ∀ x, x ∈ a → good209 x) (hb : b.length ≤ 9223372036854775807 ∧ ∀ x, x ∈ b → good211 x) (left : Int) (h0 : 0 ≤ left) (h1 : left ≤ 1048576) :
    ∃ r, Ev (fun k => laws_szBase.f k a b left) r ∧ r ≤ left ∧ (0 ≤ r → (a.length ≤ 1048576 ∧ ∀ x, x ∈ a → fitC x) ∧ b.length ≤ 1048576) := by
  obtain ⟨r, hr, hrl, hrs⟩ := szCommitS_ev a ha.1 ha.2 left h0 h1
  unfold laws_szBase.f
  by_cases hn : r < 0
  · exact ⟨-1, Ev.bind hr (by simp only [hn, if_true]; exact Ev.now _), by omega, by omega⟩
  · obtain ⟨r2, hr2, hrl2, hrs2⟩ := szRefS_ev b hb.1 hb.2 r (by omega) (by omega)
    by_cases hn2 : r2 < 0
    · exact ⟨-1, Ev.bind hr (by simp only [hn, if_false]; exact Ev.bind hr2 (by simp only [hn2, if_true]; exact Ev.now _)), by omega, by omega⟩
    · exact ⟨r2, Ev.bind hr (by simp only [hn, if_false]; exact Ev.bind hr2 (by simp only [hn2, if_false]; exact Ev.now _)), by omega, fun h => ⟨hrs (by omega), hrs2 h⟩⟩
theorem toBase_ev (a : List S209) (b : List S211) (ha : a.length ≤ 1048576) (hf : ∀ x, x ∈ a → fitC x) (hb : b.length ≤ 1048576) : Ev (fun k => laws_toBase.f k a b) (a.map cvCommit, b.map cvRef) := by
  unfold laws_toBase.f
  exact Ev.bind (toCommitS_ev a ha hf) (Ev.bind (toRefS_ev b hb) (Ev.now _))
theorem eqBase_ev (a : List S118) (b : List S178) (ha : a.length ≤ 1048576) (hf : ∀ x, x ∈ a → x.f0.length ≤ 1048576 ∧ x.f1.length ≤ 1048576) (hb : b.length ≤ 1048576) : Ev (fun k => laws_eqBase.f k a b a b) true := by
  unfold laws_eqBase.f
  refine Ev.bind (eqCommitS_ev a ha hf) ?_
  simp only [if_true]
  refine Ev.bind (eqRefS_ev b hb) ?_
  simp only [if_true]
  exact Ev.now _
def baseB (st : List S118) (rf : List S178) : Bool := storeB st && (refsB rf && rf.all (fun x => decide (x.f1 ≤ (st.length : Int))))
theorem refsB_few {l : List S178} (h : refsB l = true) : l.length ≤ 8 := by
  unfold refsB at h
  simp only [Bool.and_eq_true, decide_eq_true_eq] at h
  exact h.1
theorem l05OK_ev (st : List S118) (rf : List S178) : Ev (fun k => spec_l05OK.f k st rf) (baseB st rf) := by
  unfold spec_l05OK.f baseB
  refine Ev.bind (l03OK_ev st) ?_
  cases hs : storeB st with
  | false =>
    simp only [Bool.false_eq_true, if_false, Bool.false_and]
    exact Ev.at_ (c := 1) (fun k => by simp only [spec_l05OK.j0, if_true])
  | true =>
    simp only [if_true, Bool.true_and]
    refine Ev.bind (l04OK_ev rf) ?_
    cases hr : refsB rf with
    | false =>
      simp only [Bool.false_and, Bool.not_false]
      exact Ev.at_ (c := 1) (fun k => by simp only [spec_l05OK.j0, if_true])
    | true =>
      have h8 := refsB_few hr
      simp only [Bool.true_and, Bool.not_true]
      refine Ev.succ ?_
      simp only [spec_l05OK.j0, Bool.false_eq_true, if_false]
      have h := ev_all_loop (L := fun k i => spec_l05OK.l0 k i st rf) (n := rf.length) (p := fun i => decide ((rf.getD i z178).f1 ≤ (st.length : Int))) (fin := true) (fun i hi _ hp => by
        have c1 : (i : Int) < (rf.length : Int) := by omega
        have e1 : rd_T178 rf (i : Int) = rf.getD i z178 := rfl
        rw [decide_eq_true_eq] at hp
        have c2 : ¬ (rf.getD i z178).f1 > (st.length : Int) := by omega
        exact ⟨1, 0, fun k => by simp only [spec_l05OK.l0, c1, Int.natCast_nonneg, if_true, e1, c2, if_false, wrap_i (show i < 4611686018427387904 by omega), Nat.add_zero]⟩) (fun i hi _ hp => by
        have c1 : (i : Int) < (rf.length : Int) := by omega
        have e1 : rd_T178 rf (i : Int) = rf.getD i z178 := rfl
        rw [decide_eq_false_iff_not] at hp
        have c2 : (rf.getD i z178).f1 > (st.length : Int) := by omega
        exact ⟨1, fun k => by simp only [spec_l05OK.l0, c1, Int.natCast_nonneg, if_true, e1, c2]⟩) (Ev.at_ (c := 1) (fun k => by
        simp only [spec_l05OK.l0]
        rw [if_neg (by omega)]))
      rw [Bool.and_true] at h
      rw [all_allR (fun x => decide (x.f1 ≤ (st.length : Int))) z178 rf]
      exact h
theorem baseOK_ev (st : List S118) (rf : List S178) (hs : st.length ≤ 1048576) (hf : ∀ x, x ∈ st → x.f1.length ≤ 1048576) : Ev (fun k => impl_BaseOK.f k st rf) (baseB st rf) := by
  unfold impl_BaseOK.f baseB
  refine Ev.bind (storeOK_ev st hs hf) ?_
  cases storeB st with
  | false => simp only [Bool.false_eq_true, if_false, Bool.false_and]; exact Ev.now _
  | true =>
    simp only [if_true, Bool.true_and]
    refine Ev.bind (refsOK_ev rf) ?_
    cases refsB rf with
    | false => simp only [Bool.false_eq_true, if_false, Bool.false_and]; exact Ev.now _
    | true => simp only [if_true, Bool.true_and, areAllRef_baseOK.f, Option.bind_some]; exact Ev.now _
end Go.Proofs.Ytcpljigliklgcaa.Q
end

section
namespace Go.Proofs.Ytcpljigliklgcaa.Q
open Go.RowKit Go.Proofs.YtcpljigliklgcaaW.PrintWords Go.Proofs.YtcpljigliklgcaaW.PrintLast
set_option linter.unusedVariables false
set_option linter.unusedSimpArgs false
theorem szSnap_is (n : ByteArray) (c left : Int) : ∃ r, laws_szSnap.f n c left = some r := by
  unfold laws_szSnap.f
  split <;> exact ⟨_, rfl⟩
def snapB (st : List S118) (rf : List S178) (n : ByteArray) (c : Int) : Bool := baseB st rf && (nameB n && inB c 1 st.length)
theorem l10Snap_ev (st : List S118) (rf : List S178) (n : ByteArray) (c : Int) : Ev (fun k => spec_l10Snap.f k st rf n c) (nameB n && inB c 1 st.length) := by
  unfold spec_l10Snap.f
  refine Ev.bind (l00Word_ev n) ?_
  cases nameB n with
  | false => simp only [Bool.false_eq_true, if_false, Bool.false_and]; exact Ev.now _
  | true => simp only [if_true, Bool.true_and, l01In_is, Option.bind_some]; exact Ev.now _
theorem within_is (a b c : Int) : impl_within.f a b c = some (inB a b c) := by
  unfold impl_within.f inB
  by_cases h : b ≤ a <;> simp [h]
theorem snapOK_impl (st : List S118) (rf : List S178) (n : ByteArray) (c : Int) (hs : st.length ≤ 1048576) (hf : ∀ x, x ∈ st → x.f1.length ≤ 1048576) : Ev (fun k => impl_SnapOK.f k st rf n c) (snapB st rf n c) := by
  unfold impl_SnapOK.f snapB
  refine Ev.bind (baseOK_ev st rf hs hf) ?_
  cases baseB st rf with
  | false => simp only [Bool.false_eq_true, if_false, Bool.false_and]; exact Ev.now _
  | true =>
    simp only [if_true, Bool.true_and, impl_NameOK.f, Option.bind_some]
    cases nameB n with
    | false => simp only [Bool.false_eq_true, if_false, Bool.false_and]; exact Ev.now _
    | true => simp only [if_true, Bool.true_and, within_is, Option.bind_some]; exact Ev.now _
end Go.Proofs.Ytcpljigliklgcaa.Q
end

section
namespace Go.Proofs.Ytcpljigliklgcaa.Q
open Go.RowKit Go.Proofs.YtcpljigliklgcaaW.PrintWords Go.Proofs.YtcpljigliklgcaaW.PrintLast Go.Proofs.YtcpljigliklgcaaW.PrintMore
attribute [local go_sem] max2_int min2_int max_two min_two max_three min_three max_four min_four   -- for this text's walks alone
set_option linter.unusedVariables false
set_option linter.unusedSimpArgs false
attribute [local go_sem] bin_leq bin_gtr bin_geq
theorem eqA51 (d : Nat) (w : World) (x0 y0 : ByteArray) (x1 y1 : Int) :
    (Op.equalIn (d + 2) 51 (.agg #[.string x0, .int .i64 x1]) (.agg #[.string y0, .int .i64 y1])).run Try.prog w = .ok (x0.toList == y0.toList && (x1 == y1)) w := by
  refine eqA_of Try.underlying51 (by kernel_rfl) ?_
  refine eqf_cons (by rfl) (by go_simp; rfl) (by go_simp; rfl) (by go_simp) ?_
  exact eqf_last (by rfl) (by go_simp; rfl) (by go_simp; rfl) (by go_simp)
end Go.Proofs.Ytcpljigliklgcaa.Q
end

section
namespace Go.Proofs.Ytcpljigliklgcaa.Q
open Go.RowKit Go.Proofs.YtcpljigliklgcaaW.PrintWords Go.Proofs.YtcpljigliklgcaaW.PrintLast
set_option linter.unusedVariables false
set_option linter.unusedSimpArgs false
theorem rdEntry {l : List S51} {i : Nat} (h : i < l.length) : rd_T51 l (i : Int) = l[i] := by
  simp [rd_T51, List.getD_eq_getElem?_getD, List.getElem?_eq_getElem h]
end Go.Proofs.Ytcpljigliklgcaa.Q
end

section
namespace Go.Proofs.Ytcpljigliklgcaa.Q
open Go.RowKit Go.Proofs.YtcpljigliklgcaaW.PrintWords Go.Proofs.YtcpljigliklgcaaW.PrintLast
set_option linter.unusedVariables false
set_option linter.unusedSimpArgs false
theorem mapB_rise {l : List S51} (h : mapB l = true) : RiseP l := by
  unfold mapB at h
  simp only [Bool.and_eq_true, allR_iff] at h
  have adj : ∀ j (hj : j + 1 < l.length), sblt l[j].f0 l[j + 1].f0 = true := by
    intro j hj
    have h2 := h.2 (j + 1) hj
    unfold entAt at h2
    have e : (((j + 1 : Nat) : Int) - 1) = (j : Int) := by omega
    rw [e, rdEntry (i := j) (by omega), rdEntry hj] at h2
    have z : (j + 1 == 0) = false := rfl
    simp only [z, Bool.false_or, Bool.and_eq_true] at h2
    exact h2.2
  unfold RiseP
  rw [List.pairwise_iff_getElem]
  intro i j hi hj hij
  obtain ⟨d, rfl⟩ : ∃ d, j = i + 1 + d := ⟨j - (i + 1), by omega⟩
  induction d with
  | zero => exact adj i hj
  | succ d ih => exact sblt_trans (ih (by omega) (by omega)) (adj (i + 1 + d) hj)
theorem cmpK_self {k : ByteArray} {x : S51} : cmpK k x = 0 ↔ x.f0 = k := by
  unfold cmpK cmpB
  rw [cmp_eq]
  constructor
  · intro h
    apply toList_inj
    rw [ByteArray.toList_eq, ByteArray.toList_eq, h]
  · intro h; rw [h]
theorem find_some {l : List S51} {k : ByteArray} {i : Nat} (h : RiseP l) (hi : i < l.length) (hk : l[i].f0 = k) : cntN (cmpK k) l = i ∧ fndB (cmpK k) l = true := by
  have hp := List.pairwise_iff_getElem.mp h
  have hc : cntN (cmpK k) l = i := by
    refine cntN_is l i (by omega) (fun t ht h2 => ?_) (fun t ht h2 => ?_)
    · rw [cmpK_lt, ← hk]
      exact hp t i ht hi h2
    · have h3 : ¬ cmpK k l[t] < 0 := by
        rw [cmpK_lt, ← hk]
        rcases Nat.lt_or_eq_of_le h2 with h4 | h4
        · rw [sblt_asymm (hp i t hi ht h4)]
          simp
        · subst h4
          rw [sblt_irrefl]
          simp
      omega
  refine ⟨hc, ?_⟩
  unfold fndB
  rw [hc, List.getElem?_eq_getElem hi]
  simp only [beq_iff_eq]
  exact cmpK_self.mpr hk
theorem find_none {l : List S51} {k : ByteArray} (hn : ∀ i (hi : i < l.length), l[i].f0 ≠ k) : fndB (cmpK k) l = false := by
  unfold fndB
  cases hx : l[cntN (cmpK k) l]? with
  | none => rfl
  | some x =>
    obtain ⟨hi, rfl⟩ := List.getElem?_eq_some_iff.mp hx
    simp only [beq_eq_false_iff_ne, ne_eq]
    rw [cmpK_self]
    exact hn _ hi
theorem find_f {l : List S51} {k : ByteArray} (h : RiseP l) (hl : l.length ≤ 1048576) : impl_find.f l k = some (((cntN (cmpK k) l : Nat) : Int), fndB (cmpK k) l) := by
  unfold impl_find.f bs_find.f
  rw [if_pos h, if_pos (by omega)]
  rfl
def isKey (k : ByteArray) (x : S51) : Bool := x.f0.toList == k.toList
theorem l01At_ev (l : List S51) (n : ByteArray) (hlen : l.length ≤ 1048576) : Ev (fun k => spec_l01At.f k l n) (idxI (isKey n) l) := by
  refine ev_idx_loop (L := fun k i => spec_l01At.l0 k l n i) (q := isKey n) ?_ ?_ ?_
  · intro i hi hq k
    have hq2 : ¬ (l[i].f0.toList = n.toList) := by simpa [isKey] using hq
    have c1 : (i : Int) < (l.length : Int) := by omega
    simp only [spec_l01At.l0, rdEntry hi, c1, hq2, if_true, if_false, Int.natCast_nonneg, wrap_i (show i < 4611686018427387904 by omega)]
  · intro i hi hq k
    have hq2 : l[i].f0.toList = n.toList := by simpa [isKey] using hq
    have c1 : (i : Int) < (l.length : Int) := by omega
    simp only [spec_l01At.l0, rdEntry hi, c1, hq2, if_true, Int.natCast_nonneg]
  · intro k
    simp only [spec_l01At.l0]
    rw [if_neg (by omega)]
theorem key_cases {l : List S51} (h : RiseP l) (hl : l.length ≤ 1048576) (n : ByteArray) :
    (idxI (isKey n) l = -1 ∧ impl_find.f l n = some (((cntN (cmpK n) l : Nat) : Int), false) ∧ ∀ i (hi : i < l.length), l[i].f0 ≠ n) ∨
    ∃ (i : Nat) (hi : i < l.length), idxI (isKey n) l = (i : Int) ∧ impl_find.f l n = some ((i : Int), true) ∧ l[i].f0 = n := by
  unfold idxI
  cases hx : l.findIdx? (isKey n) with
  | none =>
    have h0 := List.findIdx?_eq_none_iff.mp hx
    have hn : ∀ i (hi : i < l.length), l[i].f0 ≠ n := by
      rintro i hi rfl
      have := h0 _ (List.getElem_mem hi)
      simp [isKey] at this
    exact .inl ⟨rfl, by rw [find_f h hl, find_none hn], hn⟩
  | some i =>
    obtain ⟨hi, hp, _⟩ := List.findIdx?_eq_some_iff_getElem.mp hx
    have hk : l[i].f0 = n := toList_inj (by simpa [isKey] using hp)
    obtain ⟨h1, h2⟩ := find_some h hi hk
    exact .inr ⟨i, hi, rfl, by rw [find_f h hl, h1, h2], hk⟩
def mapBig (l : List S51) (n : ByteArray) : Prop := (l.length : Int) > 4096 ∨ (n.size : Int) > 65536
theorem keyCode_big {l : List S51} {n : ByteArray} (h : mapBig l n) : Ev (fun k => impl_keyCode.f k l n) 2 := by
  refine Ev.at_ (c := 1) (fun k => ?_)
  unfold impl_keyCode.f impl_Entry_100.f impl_isText.f
  simp only [Option.bind_some]
  by_cases h1 : (l.length : Int) ≤ 4096
  · have h2 : ¬ (n.size : Int) ≤ 65536 := by rcases h with h | h <;> omega
    simp only [h1, h2, decide_true, decide_false, if_true, impl_keyCode.j0, Bool.not_false]
  · simp only [h1, decide_false, Bool.false_eq_true, if_false, impl_keyCode.j0, if_true]
theorem keyCode_small {l : List S51} {n : ByteArray} (h : ¬ mapBig l n) : Ev (fun k => impl_keyCode.f k l n) (if (mapB l && nameB n) = true then 0 else 1) := by
  have h1 : (l.length : Int) ≤ 4096 := by unfold mapBig at h; omega
  have h2 : (n.size : Int) ≤ 65536 := by unfold mapBig at h; omega
  refine Ev.succ ?_
  unfold impl_keyCode.f impl_Entry_100.f impl_isText.f
  simp only [Option.bind_some, h1, h2, decide_true, if_true, impl_keyCode.j0, Bool.not_true, Bool.false_eq_true, if_false, impl_NameOK.f]
  refine Ev.bind (mapOK_ev l (by omega)) ?_
  cases mapB l
  · simp only [Bool.false_eq_true, if_false, Bool.false_and]; exact Ev.now _
  · cases nameB n
    · simp only [Bool.false_eq_true, if_true, if_false, Bool.and_false]; exact Ev.now _
    · simp only [if_true, Bool.and_true]; exact Ev.now _
theorem l01Ask_small {l : List S51} {n : ByteArray} (h : ¬ mapBig l n) : Ev (fun k => spec_l01Ask.f k l n) (if (mapB l && nameB n) = true then 0 else 1) := by
  have h1 : ¬ (l.length : Int) > 4096 := by unfold mapBig at h; omega
  have h2 : ¬ (n.size : Int) > 65536 := by unfold mapBig at h; omega
  refine Ev.succ ?_
  unfold spec_l01Ask.f
  simp only [h1, h2, if_false, decide_false, spec_l01Ask.j0, Bool.false_eq_true, spec_l01OK.f, Option.bind_some]
  cases mapB l
  · simp only [Bool.false_eq_true, if_false, Bool.false_and]; exact Ev.now _
  · simp only [if_true]
    refine Ev.bind (l00Word_ev n) ?_
    cases nameB n
    · simp only [Bool.false_eq_true, if_false, Bool.and_false]; exact Ev.now _
    · simp only [if_true, Bool.and_true]; exact Ev.now _
end Go.Proofs.Ytcpljigliklgcaa.Q
end

section
namespace Go.Proofs.Ytcpljigliklgcaa.Q
open Go.RowKit Go.Proofs.YtcpljigliklgcaaW.PrintWords Go.Proofs.YtcpljigliklgcaaW.PrintLast
set_option linter.unusedVariables false
set_option linter.unusedSimpArgs false
theorem get_both (l : List S51) (n : ByteArray) (hl : l.length ≤ 1048576) : ∃ a b, Ev (fun k => spec_Get.f k l n) (a, b) ∧ Ev (fun k => impl_Get.f k l n) (a, b) := by
  by_cases hb : mapBig l n
  · refine ⟨0, 2, Ev.at_ (c := 1) (fun k => ?_), ?_⟩
    · unfold spec_Get.f
      by_cases h1 : (l.length : Int) > 4096
      · simp only [h1, if_true, spec_Get.j0]
      · have h2 : (n.size : Int) > 65536 := by rcases hb with h | h <;> omega
        simp only [h1, h2, if_false, decide_true, spec_Get.j0, if_true]
    · unfold impl_Get.f
      refine Ev.bind (keyCode_big hb) ?_
      exact Ev.now _
  · have h1 : ¬ (l.length : Int) > 4096 := by unfold mapBig at hb; omega
    have h2 : ¬ (n.size : Int) > 65536 := by unfold mapBig at hb; omega
    have hs : ∀ v, Ev (fun k => spec_Get.j0 k l n false) v → Ev (fun k => spec_Get.f k l n) v := fun v h => Ev.congr (fun k => by unfold spec_Get.f; simp only [h1, h2, if_false, decide_false]) h
    cases hr : (mapB l && nameB n) with
    | false =>
      refine ⟨0, 1, hs _ (Ev.succ ?_), ?_⟩
      · simp only [spec_Get.j0, Bool.false_eq_true, if_false]
        refine Ev.bind (l01Ask_small hb) ?_
        simp only [hr, Bool.false_eq_true, if_false]
        exact Ev.now _
      · unfold impl_Get.f
        refine Ev.bind (keyCode_small hb) ?_
        simp only [hr, Bool.false_eq_true, if_false]
        exact Ev.now _
    | true =>
      have hm : mapB l = true := by simp only [Bool.and_eq_true] at hr; exact hr.1
      rcases key_cases (mapB_rise hm) hl n with ⟨hx, hf, _⟩ | ⟨i, hi, hx, hf, _⟩
      · have n1 : (-1 : Int) < 0 := by decide
        refine ⟨0, 5, hs _ (Ev.succ ?_), ?_⟩
        · simp only [spec_Get.j0, Bool.false_eq_true, if_false]
          refine Ev.bind (l01Ask_small hb) ?_
          simp only [hr, if_true]
          refine Ev.bind (hx ▸ l01At_ev l n hl) ?_
          simp only [n1, if_true]
          exact Ev.now _
        · unfold impl_Get.f
          refine Ev.bind (keyCode_small hb) ?_
          simp only [hr, if_true, hf, Option.bind_some, Bool.false_eq_true, if_false]
          exact Ev.now _
      · have c1 : (i : Int) < (l.length : Int) := by omega
        have n1 : ¬ (i : Int) < 0 := by omega
        refine ⟨l[i].f1, 0, hs _ (Ev.succ ?_), ?_⟩
        · simp only [spec_Get.j0, Bool.false_eq_true, if_false]
          refine Ev.bind (l01Ask_small hb) ?_
          simp only [hr, if_true]
          refine Ev.bind (hx ▸ l01At_ev l n hl) ?_
          simp only [n1, if_false, Int.natCast_nonneg, c1, if_true, rdEntry hi]
          exact Ev.now _
        · unfold impl_Get.f
          refine Ev.bind (keyCode_small hb) ?_
          simp only [hr, if_true, hf, Option.bind_some, Int.natCast_nonneg, c1, rdEntry hi]
          exact Ev.now _
end Go.Proofs.Ytcpljigliklgcaa.Q
end

section
namespace Go.Proofs.Ytcpljigliklgcaa.Pure
open Go.RowKit Go.Proofs.Ytcpljigliklgcaa.Q Go.Proofs.YtcpljigliklgcaaW.PrintWords Go.Proofs.YtcpljigliklgcaaW.PrintLast
set_option linter.unusedVariables false
set_option linter.unusedSimpArgs false
theorem snap_at {c : Int} {n : Nat} (h : inB c 1 n = true) (hn : n ≤ 1048576) : ∃ i, i < n ∧ wrap64 (c - 1) = (i : Int) := by
  unfold inB at h
  simp only [Bool.and_eq_true, decide_eq_true_eq] at h
  refine ⟨(c - 1).toNat, by omega, ?_⟩
  unfold wrap64
  omega
theorem read_both (st : List S118) (rf : List S178) (n : ByteArray) (c : Int) (a : ByteArray) (hs : st.length ≤ 1048576) (hf : ∀ x, x ∈ st → x.f0.length ≤ 1048576 ∧ x.f1.length ≤ 1048576) :
    ∃ x y, Ev (fun k => spec_ReadSnap.f k st rf n c a) (x, y) ∧ Ev (fun k => impl_ReadSnap.f k st rf n c a) (x, y) := by
  unfold spec_ReadSnap.f impl_ReadSnap.f impl_isText.f
  by_cases h1 : (a.size : Int) > 65536
  · have h2 : ¬ (a.size : Int) ≤ 65536 := by omega
    exact ⟨_, _, by simp only [h1, if_true]; exact Ev.now _, by simp only [Option.bind_some, h2, decide_false, Bool.false_eq_true, if_false]; exact Ev.now _⟩
  have h2 : (a.size : Int) ≤ 65536 := by omega
  simp only [h1, if_false, Option.bind_some, h2, decide_true, if_true]
  have hS := l05OK_ev st rf
  have hT := l10Snap_ev st rf n c
  have hI := snapOK_impl st rf n c hs (fun x hx => (hf x hx).2)
  unfold snapB at hI
  cases hb : baseB st rf with
  | false =>
    rw [hb] at hS hI
    exact ⟨_, _, Ev.bind hS (by simp only [Bool.false_eq_true, if_false]; exact Ev.now _), Ev.bind hI (by simp only [Bool.false_and, Bool.false_eq_true, if_false]; exact Ev.now _)⟩
  | true =>
    rw [hb] at hS hI
    cases hc : (nameB n && inB c 1 st.length) with
    | false =>
      rw [hc] at hT hI
      exact ⟨_, _, Ev.bind hS (by simp only [if_true]; exact Ev.bind hT (by simp only [Bool.false_eq_true, if_false]; exact Ev.now _)), Ev.bind hI (by simp only [Bool.true_and, Bool.false_eq_true, if_false]; exact Ev.now _)⟩
    | true =>
      rw [hc] at hT hI
      have hin : inB c 1 st.length = true := by simp only [Bool.and_eq_true] at hc; exact hc.2
      obtain ⟨i, hi, hw⟩ := snap_at hin hs
      have c1 : (i : Int) < (st.length : Int) := by omega
      have e1 : rd_T118 st (i : Int) = st[i] := by
        show st.getD i _ = st[i]
        rw [List.getD_eq_getElem?_getD, List.getElem?_eq_getElem hi, Option.getD_some]
      obtain ⟨x, y, g1, g2⟩ := get_both st[i].f1 a (hf _ (List.getElem_mem hi)).2
      refine ⟨x, y, Ev.bind hS ?_, Ev.bind hI ?_⟩
      · simp only [if_true]
        refine Ev.bind hT ?_
        simp only [if_true, hw, Int.natCast_nonneg, c1, e1]
        exact Ev.bind g1 (Ev.now _)
      · simp only [Bool.and_self, if_true, hw, Int.natCast_nonneg, c1, e1]
        exact Ev.bind g2 (Ev.now _)
theorem FnExactReadSnap : laws_FnExactReadSnap.Pure := by
  intro l0 l1 a0 a1 a2 w0 w1 w2
  refine Ev.rounds ?_
  unfold laws_FnExactReadSnap.f
  by_cases hn1 : (a2.size : Int) > 1048576
  · simp only [hn1, if_true]
    exact Ev.now _
  simp only [hn1, if_false]
  obtain ⟨r, hr, hrl, hrs⟩ := szBase_ev l0 l1 w0.1 w0.2 1048576 (by omega) (by omega)
  refine Ev.bind hr ?_
  by_cases hn : r < 0
  · simp only [hn, if_true]
    exact Ev.now _
  simp only [hn, if_false]
  obtain ⟨⟨hl, hf⟩, hb⟩ := hrs (by omega)
  obtain ⟨r2, hr2⟩ := szSnap_is a0 a1 r
  simp only [hr2, Option.bind_some]
  by_cases hn2 : r2 < 0
  · simp only [hn2, if_true]
    exact Ev.now _
  simp only [hn2, if_false]
  have ht := toBase_ev l0 l1 hl hf hb
  have hf2 := fit_cv hf
  have hl2 : (l0.map cvCommit).length ≤ 1048576 := by simpa using hl
  have hb2 : (l1.map cvRef).length ≤ 1048576 := by simpa using hb
  obtain ⟨x, y, hs, hi⟩ := read_both (l0.map cvCommit) (l1.map cvRef) a0 a1 a2 hl2 hf2
  refine Ev.bind ht ?_
  simp only [laws_toSnap.f, Option.bind_some]
  refine Ev.bind hs (Ev.bind ht (Ev.bind hi ?_))
  simp only [if_true, bne_self_eq_false]
  refine Ev.succ ?_
  simp only [laws_FnExactReadSnap.j0, Bool.false_eq_true, if_false]
  refine Ev.bind ht (Ev.bind (eqBase_ev _ _ hl2 hf2 hb2) ?_)
  simp only [if_true]
  exact Ev.now _
end Go.Proofs.Ytcpljigliklgcaa.Pure
end
