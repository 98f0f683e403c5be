/- Parts of the proof of the law FnRefs, joined into one text. -/
import Derived.Test.YtkmjmgkpcomldaaMFnRefs2
section
namespace Go.Proofs.Ytkmjmgkpcomldaa.Q
open Go.RowKit Go.Proofs.YtkmjmgkpcomldaaW.PrintWords Go.Proofs.YtkmjmgkpcomldaaW.PrintLast Go.Proofs.YtkmjmgkpcomldaaW.PrintMore
attribute [local go_sem] max2_int min2_int max_two min_two max_three min_three max_four min_four   -- for this text's walks alone
set_option linter.unusedVariables false
set_option linter.unusedSimpArgs false
attribute [local go_sem] bin_leq bin_gtr bin_geq
attribute [local go_sem high] eqA79
def laws_sameRefs.l0 : Nat → List (S79) → List (S79) → Int → Option (Bool)
  | 0, _, _, _ => none
  | k + 1, x0, x1, x5 => if x5 < (x0.length : Int) then (if 0 ≤ x5 then (if x5 < (x1.length : Int) then (if (!((((rd_T79 x0 x5).f0).toList) == (((rd_T79 x1 x5).f0).toList)) || (!(((rd_T79 x0 x5).f1) == ((rd_T79 x1 x5).f1)) || (!(((rd_T79 x0 x5).f2) == ((rd_T79 x1 x5).f2)) || (!(((rd_T79 x0 x5).f3) == ((rd_T79 x1 x5).f3)))))) = true then (some false) else (laws_sameRefs.l0 k x0 x1 (wrap64 (x5 + 1)))) else (none)) else (none)) else (some true)
def laws_sameRefs.f (k : Nat) (l0 : List (S79)) (l1 : List (S79)) : Option (Bool) := if (l0.length : Int) = (l1.length : Int) then (laws_sameRefs.l0 k l0 l1 0) else (some false)
set_option maxHeartbeats 8000000 in
set_option maxRecDepth 100000 in
theorem laws_sameRefs.calls (k : Nat) (A0 : Option Addr) (c0 : Nat) (l0 : List (S79)) (A1 : Option Addr) (c1 : Nat) (l1 : List (S79)) (r : Bool) (w : World) (hr0 : Kd.C k79 w A0 l0.length l0) (hc0 : l0.length ≤ c0) (hr1 : Kd.C k79 w A1 l1.length l1) (hc1 : l1.length ≤ c1) (h : laws_sameRefs.f k l0 l1 = some r) :
    Calls Try.prog 27 #[.slice A0 l0.length c0, .slice A1 l1.length c1] w fun e w' => e = .returned (.bool r) ∧ Drawn0 w w' := by
  have hu79 := Try.underlying79
  have HR0 := Aside0.mk hr0
  have HC0 := Aside0.mk hc0
  clear hr0 hc0
  have HR1 := Aside0.mk hr1
  have HC1 := Aside0.mk hc1
  clear hr1 hc1
  have H : (if (l0.length : Int) = (l1.length : Int) then (laws_sameRefs.l0 k l0 l1 0) else (some false)) = some r := h
  clear h
  by_cases c3 : (l0.length : Int) = (l1.length : Int)
  · rw [if_pos c3] at H
    have c3b0 : ((l0.length : Int) == (l1.length : Int)) = true := beq_iff_eq.mpr c3
    have c3b1 : ((l0.length : Int) != (l1.length : Int)) = false := bne_eq_false_iff_eq.mpr c3
    have c3b2 : (l0.length == l1.length) = true := by first | simpa using c3 | (simp at c3 ⊢; omega)
    clear c3
    have H' := Aside0.mk H
    clear H
    go_enter Try.func27, Try.ntmps27
    go_wp2
    repeat (go_quiet (fail); try go_wp2)
    go_loopg [5] k (fun kq v5 w' => ∃ (x5_1 : Int), v5 = .int .i64 x5_1 ∧ Aside0 (laws_sameRefs.l0 kq l0 l1 x5_1 = some r) ∧ Aside0 (kq ≤ k) ∧ Drawn0 w w')
    case atStart => exact ⟨(0), vE, H', ⟨Nat.le_refl _⟩, by repeat (first | exact Drawn0.refl _ | apply Drawn0.step)⟩
    case round =>
      clear H'
      try clear c1
      try clear c2
      try clear p2
      try clear c3
      try clear c3b0
      try clear c3b1
      try clear c3b2
      obtain ⟨x5_1, rfl, HA, HK1, ⟨m1, rfl⟩⟩ := hrel
      cases gk with
      | zero => exact absurd HA.out (by simp [laws_sameRefs.l0])
      | succ k1 =>
        have H := HA.out
        clear HA
        simp only [laws_sameRefs.l0] at H
        by_cases c4 : x5_1 < (l0.length : Int)
        · rw [if_pos c4] at H
          have c4b0 : decide (x5_1 < (l0.length : Int)) = true := decide_eq_true c4
          clear c4
          by_cases c5 : 0 ≤ x5_1
          · rw [if_pos c5] at H
            have c5b0 : decide (0 ≤ x5_1) = true := decide_eq_true c5
            clear c5
            by_cases c6 : x5_1 < (l1.length : Int)
            · rw [if_pos c6] at H
              have c6b0 : decide (x5_1 < (l1.length : Int)) = true := decide_eq_true c6
              clear c6
              by_cases c7 : (!((((rd_T79 l0 x5_1).f0).toList) == (((rd_T79 l1 x5_1).f0).toList)) || (!(((rd_T79 l0 x5_1).f1) == ((rd_T79 l1 x5_1).f1)) || (!(((rd_T79 l0 x5_1).f2) == ((rd_T79 l1 x5_1).f2)) || (!(((rd_T79 l0 x5_1).f3) == ((rd_T79 l1 x5_1).f3)))))) = true
              · rw [if_pos c7] at H
                have c7b0 : (!((((rd_T79 l0 x5_1).f0).toList) == (((rd_T79 l1 x5_1).f0).toList)) || (!(((rd_T79 l0 x5_1).f1) == ((rd_T79 l1 x5_1).f1)) || (!(((rd_T79 l0 x5_1).f2) == ((rd_T79 l1 x5_1).f2)) || (!(((rd_T79 l0 x5_1).f3) == ((rd_T79 l1 x5_1).f3)))))) = true := c7
                clear c7
                obtain rfl := Option.some.inj H
                have p569 : 0 ≤ (x5_1 : Int) := odt
                have q569 : x5_1 < (l0.length : Int) := odt
                obtain ⟨ad569, e569, hx569_0, hx569_1, hx569_2, hx569_3⟩ := at_T79 HR0.out x5_1 p569 q569
                cases e569
                replace p569 := eq_true p569
                replace q569 := eq_true q569
                have p570 : 0 ≤ (x5_1 : Int) := odt
                have q570 : x5_1 < (l1.length : Int) := odt
                obtain ⟨ad570, e570, hx570_0, hx570_1, hx570_2, hx570_3⟩ := at_T79 HR1.out x5_1 p570 q570
                cases e570
                replace p570 := eq_true p570
                replace q570 := eq_true q570
                go_wp2
                repeat (go_quiet (fail); try go_wp2)
                go_ret
                exact ⟨by first | rfl | (simp; done) | (simp [*]; done), by repeat (first | exact Drawn0.refl _ | apply Drawn0.step)⟩
              · rw [if_neg c7] at H
                have c7b0 : (!((((rd_T79 l0 x5_1).f0).toList) == (((rd_T79 l1 x5_1).f0).toList)) || (!(((rd_T79 l0 x5_1).f1) == ((rd_T79 l1 x5_1).f1)) || (!(((rd_T79 l0 x5_1).f2) == ((rd_T79 l1 x5_1).f2)) || (!(((rd_T79 l0 x5_1).f3) == ((rd_T79 l1 x5_1).f3)))))) = false := by simpa using c7
                clear c7
                have H' := Aside0.mk H
                clear H
                have p569 : 0 ≤ (x5_1 : Int) := odt
                have q569 : x5_1 < (l0.length : Int) := odt
                obtain ⟨ad569, e569, hx569_0, hx569_1, hx569_2, hx569_3⟩ := at_T79 HR0.out x5_1 p569 q569
                cases e569
                replace p569 := eq_true p569
                replace q569 := eq_true q569
                have p570 : 0 ≤ (x5_1 : Int) := odt
                have q570 : x5_1 < (l1.length : Int) := odt
                obtain ⟨ad570, e570, hx570_0, hx570_1, hx570_2, hx570_3⟩ := at_T79 HR1.out x5_1 p570 q570
                cases e570
                replace p570 := eq_true p570
                replace q570 := eq_true q570
                go_wp2
                repeat (go_quiet (fail); try go_wp2)
                go_roundg k1
                case measure => have := HK1.out; omega
                case rel => exact ⟨(wrap64 (x5_1 + 1)), vE, H', ⟨by have := HK1.out; omega⟩, by repeat (first | exact Drawn0.refl _ | apply Drawn0.step)⟩
            · rw [if_neg c6] at H
              exact absurd H (by simp)
          · rw [if_neg c5] at H
            exact absurd H (by simp)
        · rw [if_neg c4] at H
          have c4b0 : decide (x5_1 < (l0.length : Int)) = false := decide_eq_false c4
          clear c4
          obtain rfl := Option.some.inj H
          go_wp2
          repeat (go_quiet (fail); try go_wp2)
          go_ret
          exact ⟨by first | rfl | (simp; done) | (simp [*]; done), by repeat (first | exact Drawn0.refl _ | apply Drawn0.step)⟩
  · rw [if_neg c3] at H
    have c3b0 : ((l0.length : Int) == (l1.length : Int)) = false := beq_eq_false_iff_ne.mpr c3
    have c3b1 : ((l0.length : Int) != (l1.length : Int)) = true := bne_iff_ne.mpr c3
    have c3b2 : (l0.length == l1.length) = false := by first | simpa using c3 | (simp at c3 ⊢; omega)
    obtain rfl := Option.some.inj H
    go_enter Try.func27, Try.ntmps27
    go_wp2
    repeat (go_quiet (fail); try go_wp2)
    go_ret
    exact ⟨by first | rfl | (simp; done) | (simp [*]; done), by repeat (first | exact Drawn0.refl _ | apply Drawn0.step)⟩
end Go.Proofs.Ytkmjmgkpcomldaa.Q
end

section
namespace Go.Proofs.Ytkmjmgkpcomldaa.Q
open Go.RowKit Go.Proofs.YtkmjmgkpcomldaaW.PrintWords Go.Proofs.YtkmjmgkpcomldaaW.PrintLast Go.Proofs.YtkmjmgkpcomldaaW.PrintMore
attribute [local go_sem] max2_int min2_int max_two min_two max_three min_three max_four min_four   -- for this text's walks alone
set_option linter.unusedVariables false
set_option linter.unusedSimpArgs false
attribute [local go_sem] bin_leq bin_gtr bin_geq
def impl_moved.f (l0 : List (S79)) (a1 : Int) (a2 : Int) : Option ((List (S79)) × Int) := (impl_Ref_70.f l0).bind fun t571 => (if 0 ≤ a1 then (if a1 < (l0.length : Int) then (if ((rd_T79 l0 a1).f2) = 1000000 then (some (t571, 7)) else (if a1 < (t571.length : Int) then (some ((t571.set (a1 : Int).toNat (⟨(rd_T79 l0 a1).f0, a2, wrap64 (((rd_T79 l0 a1).f2) + 1), (a2 == 0)⟩ : S79)), 0)) else (none))) else (none)) else (none))
def impl_moved.T4 : Bool × List (List Nat × List Nat) := (true, [([], []), ([], []), ([], []), ([], []), ([2, 3], [2, 3]), ([4], [4]), ([5], [5]), ([], []), ([], []), ([], []), ([8, 9], [8, 9]), ([10], [10]), ([11], [11]), ([12], [12]), ([], []), ([14], [14]), ([6, 7, 13, 15], [6, 7, 13, 15]), ([0, 1, 0, 1, 2, 3, 4, 5, 6, 7, 8, 9, 10, 11, 12, 13, 14, 15, 16], [0, 1]), ([17, 16, 0, 1, 2, 3, 4, 5, 6, 7, 8, 9, 10, 11, 12, 13, 14, 15, 16], [16, 17])])
def impl_moved.B4 : List Nat := [0, 0, 0, 0, 12, 28, 60, 0, 0, 0, 768, 1792, 3840, 7936, 0, 16384, 65532, 131071, 262143]
theorem impl_moved.tab4 : rtab .any (opsOf Try.f71 4) = impl_moved.T4 := by kernel_rfl
theorem impl_moved.bits4 : waitsOk impl_moved.T4.2 impl_moved.B4 = true := by kernel_rfl
set_option maxHeartbeats 8000000 in
set_option maxRecDepth 100000 in
theorem impl_moved.calls (A0 : Option Addr) (c0 : Nat) (l0 : List (S79)) (a1 : Int) (a2 : Int) (r1 : List (S79)) (r2 : Int) (w : World) (hr0 : Kd.C k79 w A0 l0.length l0) (hc0 : l0.length ≤ c0) (h : impl_moved.f l0 a1 a2 = some (r1, r2)) :
    Calls Try.prog 71 #[.slice A0 l0.length c0, .int .i64 a1, .int .i64 a2] w fun e w' => ∃ v0_ : Value, e = .returned (.tuple #[v0_, .int .i64 r2]) ∧ Kd.R k79 79 w' w.heap.size (fun _ => True) v0_ r1 ∧ Below w.heap.size w w' := by
  have hu79 := Try.underlying79
  have HR0 := Aside0.mk hr0
  have HC0 := Aside0.mk hc0
  clear hr0 hc0
  have HB := Aside0.mk (Below.refl w.heap.size w)
  have H : ((impl_Ref_70.f l0).bind fun t571 => (if 0 ≤ a1 then (if a1 < (l0.length : Int) then (if ((rd_T79 l0 a1).f2) = 1000000 then (some (t571, 7)) else (if a1 < (t571.length : Int) then (some ((t571.set (a1 : Int).toNat (⟨(rd_T79 l0 a1).f0, a2, wrap64 (((rd_T79 l0 a1).f2) + 1), (a2 == 0)⟩ : S79)), 0)) else (none))) else (none)) else (none))) = some (r1, r2) := h
  clear h
  replace H := Option.bind_eq_some_iff.mp H
  obtain ⟨t571, A40, H⟩ := H
  replace H : (if 0 ≤ a1 then (if a1 < (l0.length : Int) then (if ((rd_T79 l0 a1).f2) = 1000000 then (some (t571, 7)) else (if a1 < (t571.length : Int) then (some ((t571.set (a1 : Int).toNat (⟨(rd_T79 l0 a1).f0, a2, wrap64 (((rd_T79 l0 a1).f2) + 1), (a2 == 0)⟩ : S79)), 0)) else (none))) else (none)) else (none)) = some (r1, r2) := H
  have A4 := Aside0.mk A40
  clear A40
  by_cases c5 : 0 ≤ a1
  · rw [if_pos c5] at H
    have c5b0 : decide (0 ≤ a1) = true := decide_eq_true c5
    clear c5
    by_cases c6 : a1 < (l0.length : Int)
    · rw [if_pos c6] at H
      have c6b0 : decide (a1 < (l0.length : Int)) = true := decide_eq_true c6
      clear c6
      by_cases c7 : ((rd_T79 l0 a1).f2) = 1000000
      · rw [if_pos c7] at H
        have c7b0 : (((rd_T79 l0 a1).f2) == 1000000) = true := beq_iff_eq.mpr c7
        have c7b1 : (((rd_T79 l0 a1).f2) != 1000000) = false := bne_eq_false_iff_eq.mpr c7
        clear c7
        simp only [Option.some.injEq, Prod.mk.injEq] at H
        obtain ⟨rfl, rfl⟩ := H
        go_enter Try.func71, Try.ntmps71
        go_wp2_with (first | ((with_reducible refine gate_callee (f := 70) rfl ?_); refine goesL_ (some 10) rfl rfl Try.func70 (by kernel_rfl) rfl #[.slice A0 l0.length c0] rfl gA ?_; (with_reducible refine (impl_Ref_70.calls _ _ l0 t571 _ ?side1 ?side2 A4.out).mono ?_); (case side1 => exact cN HR0); (case side2 => exact HC0.out); rintro e w8 ⟨v572, rfl, ho0, hb⟩; refine ⟨_, rfl, ?_⟩; have n0_ := Aside0.mk (Kd.R_lower ho0 (below_size (w := w) bW)); have n1_ := Aside0.mk (below_step (w := w) bW hb); clear HB; have HO573 := n0_; have HB := n1_; clear n0_ n1_; (try clear hb); (try clear hb2); (try clear hk); (try clear hi); (try clear ho0); have p574 : 0 ≤ (a1 : Int) := odt; have q574 : a1 < (l0.length : Int) := odt; obtain ⟨ad574, e574, hx574_0, hx574_1, hx574_2, hx574_3⟩ := at_T79 HR0.out a1 p574 q574; cases e574; replace hx574_0 := (HB.out.cell (World.block_lt_of_cell? w _ hx574_0)).trans hx574_0; replace hx574_1 := (HB.out.cell (World.block_lt_of_cell? w _ hx574_1)).trans hx574_1; replace hx574_2 := (HB.out.cell (World.block_lt_of_cell? w _ hx574_2)).trans hx574_2; replace hx574_3 := (HB.out.cell (World.block_lt_of_cell? w _ hx574_3)).trans hx574_3; replace p574 := eq_true p574; replace q574 := eq_true q574))
        go_ret2
        exact ⟨_, by first | rfl | (simp [errW_none, errW_some] <;> rfl) | (simp [*, errW_none, errW_some] <;> rfl), by (with_reducible repeat (first | apply Kd.R_alloc | apply Kd.R_drewN | apply Kd.R_drew)); exact HO573.out, bW⟩
      · rw [if_neg c7] at H
        have c7b0 : (((rd_T79 l0 a1).f2) == 1000000) = false := beq_eq_false_iff_ne.mpr c7
        have c7b1 : (((rd_T79 l0 a1).f2) != 1000000) = true := bne_iff_ne.mpr c7
        by_cases c9 : a1 < (t571.length : Int)
        · rw [if_pos c9] at H
          have c9b0 : decide (a1 < (t571.length : Int)) = true := decide_eq_true c9
          clear c9
          obtain ⟨y577, hy577⟩ : ∃ y_ : List (S79), y_ = (t571.set (a1 : Int).toNat (⟨(rd_T79 l0 a1).f0, a2, wrap64 (((rd_T79 l0 a1).f2) + 1), (a2 == 0)⟩ : S79)) := ⟨_, rfl⟩
          replace H : (some (y577, 0)) = some (r1, r2) := by first | (rw [hy577]; with_reducible exact H) | (have H2_ := (Option.bind_some _ _).symm.trans H; rw [hy577]; with_reducible exact H2_) | (have H2_ := (Option.bind_some _ _).symm.trans H; with_reducible exact H2_) | with_reducible exact H | (rw [hy577]; exact H) | exact H
          have Ny577 := Aside0.mk hy577
          clear hy577
          simp only [Option.some.injEq, Prod.mk.injEq] at H
          obtain ⟨rfl, rfl⟩ := H
          go_enter Try.func71, Try.ntmps71
          try go_wp2_with (first | ((with_reducible refine gate_callee (f := 70) rfl ?_); refine goesL_ (some 10) rfl rfl Try.func70 (by kernel_rfl) rfl #[.slice A0 l0.length c0] rfl gA ?_; (with_reducible refine (impl_Ref_70.calls _ _ l0 t571 _ ?side1 ?side2 A4.out).mono ?_); (case side1 => exact cN HR0); (case side2 => exact HC0.out); rintro e w11 ⟨v572, rfl, ho0, hb⟩; refine ⟨_, rfl, ?_⟩; have n0_ := Aside0.mk (Kd.R_lower ho0 (below_size (w := w) bW)); have n1_ := Aside0.mk (below_step (w := w) bW hb); clear HB; have HO573 := n0_; have HB := n1_; clear n0_ n1_; (try clear hb); (try clear hb2); (try clear hk); (try clear hi); (try clear ho0); have p574 : 0 ≤ (a1 : Int) := odt; have q574 : a1 < (l0.length : Int) := odt; obtain ⟨ad574, e574, hx574_0, hx574_1, hx574_2, hx574_3⟩ := at_T79 HR0.out a1 p574 q574; cases e574; replace hx574_0 := (HB.out.cell (World.block_lt_of_cell? w _ hx574_0)).trans hx574_0; replace hx574_1 := (HB.out.cell (World.block_lt_of_cell? w _ hx574_1)).trans hx574_1; replace hx574_2 := (HB.out.cell (World.block_lt_of_cell? w _ hx574_2)).trans hx574_2; replace hx574_3 := (HB.out.cell (World.block_lt_of_cell? w _ hx574_3)).trans hx574_3; replace p574 := eq_true p574; replace q574 := eq_true q574))
          have n0_ := Aside0.mk (Kd.R_drew HO573.out)
          have n1_ := Aside0.mk (below_drew1 HB.out)
          clear HO573
          clear HB
          have HO573 := n0_
          have HB := n1_
          clear n0_ n1_
          have p575 : 0 ≤ (a1 : Int) := odt
          have q575 : a1 < (l0.length : Int) := odt
          obtain ⟨ad575, e575, hx575_0, hx575_1, hx575_2, hx575_3⟩ := at_T79 HR0.out a1 p575 q575
          have hw575_3 := hx575_3
          have hw575_2 := hx575_2
          have hw575_1 := hx575_1
          have hw575_0 := hx575_0
          obtain rfl : ad574 = ad575 := (by injection e575)
          replace hx575_0 := (HB.out.cell (World.block_lt_of_cell? w _ hx575_0)).trans hx575_0
          replace hx575_1 := (HB.out.cell (World.block_lt_of_cell? w _ hx575_1)).trans hx575_1
          replace hx575_2 := (HB.out.cell (World.block_lt_of_cell? w _ hx575_2)).trans hx575_2
          replace hx575_3 := (HB.out.cell (World.block_lt_of_cell? w _ hx575_3)).trans hx575_3
          replace p575 := eq_true p575
          replace q575 := eq_true q575
          have p576 : 0 ≤ (a1 : Int) := odt
          have q576 : a1 < (l0.length : Int) := odt
          obtain ⟨ad576, e576, hx576_0, hx576_1, hx576_2, hx576_3⟩ := at_T79 HR0.out a1 p576 q576
          have hw576_3 := hx576_3
          have hw576_2 := hx576_2
          have hw576_1 := hx576_1
          have hw576_0 := hx576_0
          obtain rfl : ad574 = ad576 := (by injection e576)
          replace hx576_0 := (HB.out.cell (World.block_lt_of_cell? w _ hx576_0)).trans hx576_0
          replace hx576_1 := (HB.out.cell (World.block_lt_of_cell? w _ hx576_1)).trans hx576_1
          replace hx576_2 := (HB.out.cell (World.block_lt_of_cell? w _ hx576_2)).trans hx576_2
          replace hx576_3 := (HB.out.cell (World.block_lt_of_cell? w _ hx576_3)).trans hx576_3
          replace p576 := eq_true p576
          replace q576 := eq_true q576
          have p10 : 0 ≤ (a1 : Int) := odt
          have q10 : (a1 : Int) < ((t571.length : Int) : Int) := odt
          obtain ⟨go10, co10, eo10, gb10, gl10, cl10, HG10⟩ := Kd.R_form HO573.out (by omega)
          (first | cases eo10 | (injection eo10 with ea_ en_ ec_; (first | subst ea_ | (injection ea_ with ea_; subst ea_)); subst ec_; clear en_))
          have GB10 := Aside0.mk gb10
          have GG10 := Aside0.mk HG10
          clear gb10 gl10 HG10
          obtain ⟨ce10, hcl10, hM10, hcc10, hfr10⟩ := Kd.R_elem HO573.out z79 (a1 : Int) p10 q10
          obtain rfl := k79_openM hM10
          have hx10_0 : World.cell? _ ⟨go10, (a1 : Int).toNat * 4, none⟩ = some (.string ((rd_T79 t571 a1).f0)) := hcc10 0 _ rfl
          have hx10_1 : World.cell? _ ⟨go10, (a1 : Int).toNat * 4 + 1, none⟩ = some (.int .i64 ((rd_T79 t571 a1).f1)) := hcc10 1 _ rfl
          have hx10_2 : World.cell? _ ⟨go10, (a1 : Int).toNat * 4 + 2, none⟩ = some (.int .i64 ((rd_T79 t571 a1).f2)) := hcc10 2 _ rfl
          have hx10_3 : World.cell? _ ⟨go10, (a1 : Int).toNat * 4 + 3, none⟩ = some (.bool ((rd_T79 t571 a1).f3)) := hcc10 3 _ rfl
          have hf10_0 : World.frozen? _ ⟨go10, (a1 : Int).toNat * 4, none⟩ = false := hfr10 0
          have hf10_1 : World.frozen? _ ⟨go10, (a1 : Int).toNat * 4 + 1, none⟩ = false := hfr10 1
          have hf10_2 : World.frozen? _ ⟨go10, (a1 : Int).toNat * 4 + 2, none⟩ = false := hfr10 2
          have hf10_3 : World.frozen? _ ⟨go10, (a1 : Int).toNat * 4 + 3, none⟩ = false := hfr10 3
          clear hcl10 hcc10 hfr10 hM10
          replace p10 := eq_true p10
          replace q10 := eq_true q10
          obtain ⟨ce13, hcl13, hM13, hcc13, hfr13⟩ := Kd.R_elem HO573.out z79 (a1 : Int) (odt) (by have h_ : (a1 : Int) < ((t571.length : Int) : Int) := odt; first | exact h_ | (have e_ := (Kd.R_reads' HO573.out).1; omega) | simpa using h_)
          obtain rfl := k79_openM hM13
          have HP13 := (Kd.R_seg HO573.out (a1 : Int) (odt) (by have h_ : (a1 : Int) < ((t571.length : Int) : Int) := odt; first | exact h_ | (have e_ := (Kd.R_reads' HO573.out).1; omega) | simpa using h_) (seg := [.string ((rd_T79 l0 a1).f0), .int .i64 a2, .int .i64 (wrap64 (((rd_T79 l0 a1).f2) + 1)), .bool (a2 == 0)]) (j := 0) hcl13 hcc13 (show 4 ≤ 4 from by decide) (x' := (⟨(rd_T79 l0 a1).f0, a2, wrap64 (((rd_T79 l0 a1).f2) + 1), (a2 == 0)⟩ : S79)) (k79_mkM _ _ _ (⟨(rd_T79 l0 a1).f0, a2, wrap64 (((rd_T79 l0 a1).f2) + 1), (a2 == 0)⟩ : S79) ) (fun _ hk => hk)).1
          rw [← Ny577.out] at HP13
          have HQ13 := Aside0.mk HP13
          clear hcl13 hcc13 hfr13 hM13 HP13
          refine start_ (n := 19) (S := fun w' => w'.cell? (ad574.add ((a1).toNat * 4)) = some (.string ((rd_T79 l0 a1).f0)) ∧ w'.cell? ⟨(ad574.add ((a1).toNat * 4)).block, (ad574.add ((a1).toNat * 4)).off + 1, none⟩ = some (.int .i64 ((rd_T79 l0 a1).f1)) ∧ w'.cell? ⟨(ad574.add ((a1).toNat * 4)).block, (ad574.add ((a1).toNat * 4)).off + 2, none⟩ = some (.int .i64 ((rd_T79 l0 a1).f2)) ∧ w'.cell? ⟨(ad574.add ((a1).toNat * 4)).block, (ad574.add ((a1).toNat * 4)).off + 3, none⟩ = some (.bool ((rd_T79 l0 a1).f3)) ∧ w'.cell? (ad574.add ((a1).toNat * 4)) = some (.string ((rd_T79 l0 a1).f0)) ∧ w'.cell? ⟨(ad574.add ((a1).toNat * 4)).block, (ad574.add ((a1).toNat * 4)).off + 1, none⟩ = some (.int .i64 ((rd_T79 l0 a1).f1)) ∧ w'.cell? ⟨(ad574.add ((a1).toNat * 4)).block, (ad574.add ((a1).toNat * 4)).off + 2, none⟩ = some (.int .i64 ((rd_T79 l0 a1).f2)) ∧ w'.cell? ⟨(ad574.add ((a1).toNat * 4)).block, (ad574.add ((a1).toNat * 4)).off + 3, none⟩ = some (.bool ((rd_T79 l0 a1).f3))) (ds := [18]) #[false, false, false, false, false, false, false, false, false, false, false, false, false, false, false, false, false, false, false] (by kernel_rfl) rfl rfl ⟨((HB.out.cell (World.block_lt_of_cell? w _ hw575_0)).trans hw575_0), ((HB.out.cell (World.block_lt_of_cell? w _ hw575_1)).trans hw575_1), ((HB.out.cell (World.block_lt_of_cell? w _ hw575_2)).trans hw575_2), ((HB.out.cell (World.block_lt_of_cell? w _ hw575_3)).trans hw575_3), ((HB.out.cell (World.block_lt_of_cell? w _ hw576_0)).trans hw576_0), ((HB.out.cell (World.block_lt_of_cell? w _ hw576_1)).trans hw576_1), ((HB.out.cell (World.block_lt_of_cell? w _ hw576_2)).trans hw576_2), ((HB.out.cell (World.block_lt_of_cell? w _ hw576_3)).trans hw576_3)⟩ (fun hHeld => ?_); refine with_tabW impl_moved.tab4 impl_moved.bits4 (fun HT_ HW_ => ?_)
          generalize w11.drew = w12 at HO573 HB GG10 HQ13 hf10_0 hf10_1 hf10_2 hf10_3 hx10_0 hx10_1 hx10_2 hx10_3 hx575_0 hx575_1 hx575_2 hx575_3 hx576_0 hx576_1 hx576_2 hx576_3 hHeld ⊢
          refine pure_ (i := 0) (N := some 18) (v := ?_) (a' := ?_) #[true, false, false, false, false, false, false, false, false, false, false, false, false, false, false, false, false, false, false] rfl rfl (any_of HT_.out (by kernel_rfl)) (fun _ _ _ h => h) (Or.inl ⟨by rfl, ?_⟩) ?_ ?_
          rotate_left
          · intro w'
            go_simp
            with_reducible rfl
          rotate_left
          · simp only [Act.put, List.setIfInBounds_toArray, List.set_cons_zero, List.set_cons_succ, i64_w, i32_w]
            rfl
          refine pure_ (i := 1) (N := some 19) (v := ?_) (a' := ?_) #[true, true, false, false, false, false, false, false, false, false, false, false, false, false, false, false, false, false, false] rfl rfl (any_of HT_.out (by kernel_rfl)) (fun _ _ _ h => h) (Or.inl ⟨by rfl, ?_⟩) ?_ ?_
          rotate_left
          · intro w'
            go_simp
            with_reducible rfl
          rotate_left
          · simp only [Act.put, List.setIfInBounds_toArray, List.set_cons_zero, List.set_cons_succ, i64_w, i32_w]
            rfl
          refine pure_ (i := 2) (N := some 20) (v := ?_) (a' := ?_) #[true, true, true, false, false, false, false, false, false, false, false, false, false, false, false, false, false, false, false] rfl rfl (any_of HT_.out (by kernel_rfl)) (fun _ _ _ h => h) (Or.inl ⟨by rfl, ?_⟩) ?_ ?_
          rotate_left
          · intro w'
            go_simp
            with_reducible rfl
          rotate_left
          · simp only [Act.put, List.setIfInBounds_toArray, List.set_cons_zero, List.set_cons_succ, i64_w, i32_w]
            rfl
          refine pure_ (i := 3) (N := some 21) (v := ?_) (a' := ?_) #[true, true, true, true, false, false, false, false, false, false, false, false, false, false, false, false, false, false, false] rfl rfl (any_of HT_.out (by kernel_rfl)) (fun _ _ _ h => h) (Or.inl ⟨by rfl, ?_⟩) ?_ ?_
          rotate_left
          · intro w'
            go_simp
            with_reducible rfl
          rotate_left
          · simp only [Act.put, List.setIfInBounds_toArray, List.set_cons_zero, List.set_cons_succ, i64_w, i32_w]
            rfl
          refine pure_ (i := 4) (N := some 22) (v := ?_) (a' := ?_) #[true, true, true, true, true, false, false, false, false, false, false, false, false, false, false, false, false, false, false] rfl rfl (any_of HT_.out (by kernel_rfl)) (fun _ _ _ h => h) (Or.inl ⟨by rfl, ?_⟩) ?_ ?_
          rotate_left
          · intro w'
            go_simp
            with_reducible rfl
          rotate_left
          · simp only [Act.put, List.setIfInBounds_toArray, List.set_cons_zero, List.set_cons_succ, i64_w, i32_w]
            rfl
          refine pure_ (i := 5) (N := some 23) (v := ?_) (a' := ?_) #[true, true, true, true, true, true, false, false, false, false, false, false, false, false, false, false, false, false, false] rfl rfl (any_of HT_.out (by kernel_rfl)) (fun _ _ _ h => h) (Or.inl ⟨by rfl, ?_⟩) ?_ ?_
          rotate_left
          · intro w'
            go_simp
            with_reducible rfl
          rotate_left
          · simp only [Act.put, List.setIfInBounds_toArray, List.set_cons_zero, List.set_cons_succ, i64_w, i32_w]
            rfl
          refine pure_ (i := 7) (N := some 25) (v := ?_) (a' := ?_) #[true, true, true, true, true, true, false, true, false, false, false, false, false, false, false, false, false, false, false] rfl rfl (any_of HT_.out (by kernel_rfl)) (fun _ _ _ h => h) (Or.inl ⟨by rfl, ?_⟩) ?_ ?_
          rotate_left
          · intro w'
            go_simp
            with_reducible rfl
          rotate_left
          · simp only [Act.put, List.setIfInBounds_toArray, List.set_cons_zero, List.set_cons_succ, i64_w, i32_w]
            rfl
          refine pure_ (i := 8) (N := some 26) (v := ?_) (a' := ?_) #[true, true, true, true, true, true, false, true, true, false, false, false, false, false, false, false, false, false, false] rfl rfl (any_of HT_.out (by kernel_rfl)) (fun _ _ _ h => h) (Or.inl ⟨by rfl, ?_⟩) ?_ ?_
          rotate_left
          · intro w'
            go_simp
            with_reducible rfl
          rotate_left
          · simp only [Act.put, List.setIfInBounds_toArray, List.set_cons_zero, List.set_cons_succ, i64_w, i32_w]
            rfl
          refine pure_ (i := 9) (N := some 27) (v := ?_) (a' := ?_) #[true, true, true, true, true, true, false, true, true, true, false, false, false, false, false, false, false, false, false] rfl rfl (any_of HT_.out (by kernel_rfl)) (fun _ _ _ h => h) (Or.inl ⟨by rfl, ?_⟩) ?_ ?_
          rotate_left
          · intro w'
            go_simp
            with_reducible rfl
          rotate_left
          · simp only [Act.put, List.setIfInBounds_toArray, List.set_cons_zero, List.set_cons_succ, i64_w, i32_w]
            rfl
          refine pure_ (i := 10) (N := some 28) (v := ?_) (a' := ?_) #[true, true, true, true, true, true, false, true, true, true, true, false, false, false, false, false, false, false, false] rfl rfl (any_of HT_.out (by kernel_rfl)) (fun _ _ _ h => h) (Or.inl ⟨by rfl, ?_⟩) ?_ ?_
          rotate_left
          · intro w'
            go_simp
            with_reducible rfl
          rotate_left
          · simp only [Act.put, List.setIfInBounds_toArray, List.set_cons_zero, List.set_cons_succ, i64_w, i32_w]
            rfl
          refine pure_ (i := 11) (N := some 29) (v := ?_) (a' := ?_) #[true, true, true, true, true, true, false, true, true, true, true, true, false, false, false, false, false, false, false] rfl rfl (any_of HT_.out (by kernel_rfl)) (fun _ _ _ h => h) (Or.inl ⟨by rfl, ?_⟩) ?_ ?_
          rotate_left
          · intro w'
            go_simp
            with_reducible rfl
          rotate_left
          · simp only [Act.put, List.setIfInBounds_toArray, List.set_cons_zero, List.set_cons_succ, i64_w, i32_w]
            rfl
          refine pure_ (i := 14) (N := some 32) (v := ?_) (a' := ?_) #[true, true, true, true, true, true, false, true, true, true, true, true, false, false, true, false, false, false, false] rfl rfl (any_of HT_.out (by kernel_rfl)) (fun _ _ _ h => h) (Or.inl ⟨by rfl, ?_⟩) ?_ ?_
          rotate_left
          · intro w'
            go_simp
            with_reducible rfl
          rotate_left
          · simp only [Act.put, List.setIfInBounds_toArray, List.set_cons_zero, List.set_cons_succ, i64_w, i32_w]
            rfl
          refine pure_ (i := 15) (N := some 33) (v := ?_) (a' := ?_) #[true, true, true, true, true, true, false, true, true, true, true, true, false, false, true, true, false, false, false] rfl rfl (any_of HT_.out (by kernel_rfl)) (fun _ _ _ h => h) (Or.inl ⟨by rfl, ?_⟩) ?_ ?_
          rotate_left
          · intro w'
            go_simp
            with_reducible rfl
          rotate_left
          · simp only [Act.put, List.setIfInBounds_toArray, List.set_cons_zero, List.set_cons_succ, i64_w, i32_w]
            rfl
          refine take_ (i := 6) (N := some 24) (v := ?_) (a' := ?_) #[true, true, true, true, true, true, true, true, true, true, true, true, false, false, true, true, false, false, false] rfl rfl (take_ofW HT_.out HW_.out (by kernel_rfl)) (fun _ _ _ h => h) (Or.inl ⟨by rfl, ?_⟩) hHeld ?_ ?_
          rotate_left
          · rintro w' ⟨s0, s1, s2, s3, s4, s5, s6, s7⟩
            go_simp
            with_reducible rfl
          rotate_left
          · simp only [Act.put, List.setIfInBounds_toArray, List.set_cons_zero, List.set_cons_succ, i64_w, i32_w]
            rfl
          refine take_ (i := 12) (N := some 30) (v := ?_) (a' := ?_) #[true, true, true, true, true, true, true, true, true, true, true, true, true, false, true, true, false, false, false] rfl rfl (take_ofW HT_.out HW_.out (by kernel_rfl)) (fun _ _ _ h => h) (Or.inl ⟨by rfl, ?_⟩) hHeld ?_ ?_
          rotate_left
          · rintro w' ⟨s0, s1, s2, s3, s4, s5, s6, s7⟩
            go_simp
            with_reducible rfl
          rotate_left
          · simp only [Act.put, List.setIfInBounds_toArray, List.set_cons_zero, List.set_cons_succ, i64_w, i32_w]
            rfl
          refine pure_ (i := 13) (N := some 31) (v := ?_) (a' := ?_) #[true, true, true, true, true, true, true, true, true, true, true, true, true, true, true, true, false, false, false] rfl rfl (any_of HT_.out (by kernel_rfl)) (fun _ _ _ h => h) (Or.inl ⟨by rfl, ?_⟩) ?_ ?_
          rotate_left
          · intro w'
            go_simp
            with_reducible rfl
          rotate_left
          · simp only [Act.put, List.setIfInBounds_toArray, List.set_cons_zero, List.set_cons_succ, i64_w, i32_w]
            rfl
          refine pure_ (i := 16) (N := some 34) (v := ?_) (a' := ?_) #[true, true, true, true, true, true, true, true, true, true, true, true, true, true, true, true, true, false, false] rfl rfl (any_of HT_.out (by kernel_rfl)) (fun _ _ _ h => h) (Or.inl ⟨by rfl, ?_⟩) ?_ ?_
          rotate_left
          · intro w'
            go_simp
            with_reducible rfl
          rotate_left
          · simp only [Act.put, List.setIfInBounds_toArray, List.set_cons_zero, List.set_cons_succ, i64_w, i32_w]
            rfl
          refine pure_ (i := 17) (N := some 35) (v := ?_) (a' := ?_) #[true, true, true, true, true, true, true, true, true, true, true, true, true, true, true, true, true, true, false] rfl rfl (any_of HT_.out (by kernel_rfl)) (fun _ _ _ h => h) (Or.inl ⟨by rfl, ?_⟩) ?_ ?_
          rotate_left
          · intro w'
            go_simp
            with_reducible rfl
          rotate_left
          · simp only [Act.put, List.setIfInBounds_toArray, List.set_cons_zero, List.set_cons_succ, i64_w, i32_w]
            rfl
          refine last_ (i := 18) (N := none) #[true, true, true, true, true, true, true, true, true, true, true, true, true, true, true, true, true, true, true] rfl rfl (one_of HT_.out (by kernel_rfl)) (by decide) (fun K hK => ?_)
          refine skip_ (w1 := ?_) (by rfl) rfl ?_ ?_
          rotate_left
          · go_simp
            rfl
          refine hK.out _ _ ?_
          clear hK K
          refine done_ (done_of HT_.out (by kernel_rfl)) ?_
          try go_wp2
          go_ret2
          exact ⟨_, by first | rfl | (simp [errW_none, errW_some] <;> rfl) | (simp [*, errW_none, errW_some] <;> rfl), by (with_reducible repeat (first | apply Kd.R_alloc | apply Kd.R_drewN | apply Kd.R_drew)); exact HQ13.out, bW⟩
        · rw [if_neg c9] at H
          exact absurd H (by simp)
    · rw [if_neg c6] at H
      exact absurd H (by simp)
  · rw [if_neg c5] at H
    exact absurd H (by simp)
end Go.Proofs.Ytkmjmgkpcomldaa.Q
end

section
namespace Go.Proofs.Ytkmjmgkpcomldaa.Q
open Go.RowKit Go.Proofs.YtkmjmgkpcomldaaW.PrintWords Go.Proofs.YtkmjmgkpcomldaaW.PrintLast Go.Proofs.YtkmjmgkpcomldaaW.PrintMore
attribute [local go_sem] max2_int min2_int max_two min_two max_three min_three max_four min_four   -- for this text's walks alone
set_option linter.unusedVariables false
set_option linter.unusedSimpArgs false
attribute [local go_sem] bin_leq bin_gtr bin_geq
def impl_SwapRef.f (k : Nat) (l0 : List (S79)) (a1 : ByteArray) (a2 : Int) (a3 : Int) : Option ((List (S79)) × Int) := (impl_refsCode.f k l0 a1).bind fun t578 => (if t578 = 0 then ((impl_live.f l0 a1).bind fun bt579 => ((impl_isHead.f a3).bind fun t581 => (if t581 = true then (if bt579.2 = true then (if 0 ≤ bt579.1 then (if bt579.1 < (l0.length : Int) then (if ((rd_T79 l0 bt579.1).f2) = a2 then ((impl_moved.f l0 bt579.1 a3).bind fun bt583 => (some (bt583.1, bt583.2))) else ((impl_Ref_70.f l0).bind fun t587 => (some (t587, 13)))) else (none)) else (none)) else ((impl_Ref_70.f l0).bind fun t590 => (some (t590, 10)))) else (some (([] : List (S79)), 4))))) else (some (([] : List (S79)), t578)))
set_option maxHeartbeats 8000000 in
set_option maxRecDepth 100000 in
theorem impl_SwapRef.calls (k : Nat) (A0 : Option Addr) (c0 : Nat) (l0 : List (S79)) (a1 : ByteArray) (a2 : Int) (a3 : Int) (r1 : List (S79)) (r2 : Int) (w : World) (hr0 : Kd.C k79 w A0 l0.length l0) (hc0 : l0.length ≤ c0) (h : impl_SwapRef.f k l0 a1 a2 a3 = some (r1, r2)) :
    Calls Try.prog 29 #[.slice A0 l0.length c0, .string a1, .int .i64 a2, .int .i64 a3] w fun e w' => ∃ v0_ : Value, e = .returned (.tuple #[v0_, .int .i64 r2]) ∧ Kd.R k79 79 w' w.heap.size (fun _ => True) v0_ r1 ∧ Below w.heap.size w w' := by
  have HR0 := Aside0.mk hr0
  have HC0 := Aside0.mk hc0
  clear hr0 hc0
  have HB := Aside0.mk (Below.refl w.heap.size w)
  have H : ((impl_refsCode.f k l0 a1).bind fun t578 => (if t578 = 0 then ((impl_live.f l0 a1).bind fun bt579 => ((impl_isHead.f a3).bind fun t581 => (if t581 = true then (if bt579.2 = true then (if 0 ≤ bt579.1 then (if bt579.1 < (l0.length : Int) then (if ((rd_T79 l0 bt579.1).f2) = a2 then ((impl_moved.f l0 bt579.1 a3).bind fun bt583 => (some (bt583.1, bt583.2))) else ((impl_Ref_70.f l0).bind fun t587 => (some (t587, 13)))) else (none)) else (none)) else ((impl_Ref_70.f l0).bind fun t590 => (some (t590, 10)))) else (some (([] : List (S79)), 4))))) else (some (([] : List (S79)), t578)))) = some (r1, r2) := h
  clear h
  replace H := Option.bind_eq_some_iff.mp H
  obtain ⟨t578, A50, H⟩ := H
  replace H : (if t578 = 0 then ((impl_live.f l0 a1).bind fun bt579 => ((impl_isHead.f a3).bind fun t581 => (if t581 = true then (if bt579.2 = true then (if 0 ≤ bt579.1 then (if bt579.1 < (l0.length : Int) then (if ((rd_T79 l0 bt579.1).f2) = a2 then ((impl_moved.f l0 bt579.1 a3).bind fun bt583 => (some (bt583.1, bt583.2))) else ((impl_Ref_70.f l0).bind fun t587 => (some (t587, 13)))) else (none)) else (none)) else ((impl_Ref_70.f l0).bind fun t590 => (some (t590, 10)))) else (some (([] : List (S79)), 4))))) else (some (([] : List (S79)), t578))) = some (r1, r2) := H
  have A5 := Aside0.mk A50
  clear A50
  by_cases c6 : t578 = 0
  · rw [if_pos c6] at H
    have c6b0 : (t578 == 0) = true := beq_iff_eq.mpr c6
    have c6b1 : (t578 != 0) = false := bne_eq_false_iff_eq.mpr c6
    clear c6
    replace H := Option.bind_eq_some_iff.mp H
    obtain ⟨⟨t579, t580⟩, A70, H⟩ := H
    replace H : ((impl_isHead.f a3).bind fun t581 => (if t581 = true then (if t580 = true then (if 0 ≤ t579 then (if t579 < (l0.length : Int) then (if ((rd_T79 l0 t579).f2) = a2 then ((impl_moved.f l0 t579 a3).bind fun bt583 => (some (bt583.1, bt583.2))) else ((impl_Ref_70.f l0).bind fun t587 => (some (t587, 13)))) else (none)) else (none)) else ((impl_Ref_70.f l0).bind fun t590 => (some (t590, 10)))) else (some (([] : List (S79)), 4)))) = some (r1, r2) := H
    have A7 := Aside0.mk A70
    clear A70
    replace H := Option.bind_eq_some_iff.mp H
    obtain ⟨t581, A80, H⟩ := H
    replace H : (if t581 = true then (if t580 = true then (if 0 ≤ t579 then (if t579 < (l0.length : Int) then (if ((rd_T79 l0 t579).f2) = a2 then ((impl_moved.f l0 t579 a3).bind fun bt583 => (some (bt583.1, bt583.2))) else ((impl_Ref_70.f l0).bind fun t587 => (some (t587, 13)))) else (none)) else (none)) else ((impl_Ref_70.f l0).bind fun t590 => (some (t590, 10)))) else (some (([] : List (S79)), 4))) = some (r1, r2) := H
    have A8 := Aside0.mk A80
    clear A80
    by_cases c9 : t581 = true
    · subst c9
      have H1 : (if t580 = true then (if 0 ≤ t579 then (if t579 < (l0.length : Int) then (if ((rd_T79 l0 t579).f2) = a2 then ((impl_moved.f l0 t579 a3).bind fun bt583 => (some (bt583.1, bt583.2))) else ((impl_Ref_70.f l0).bind fun t587 => (some (t587, 13)))) else (none)) else (none)) else ((impl_Ref_70.f l0).bind fun t590 => (some (t590, 10)))) = some (r1, r2) := by rw [if_pos rfl] at H; exact H
      clear H
      have H := H1
      clear H1
      by_cases c10 : t580 = true
      · subst c10
        have H1 : (if 0 ≤ t579 then (if t579 < (l0.length : Int) then (if ((rd_T79 l0 t579).f2) = a2 then ((impl_moved.f l0 t579 a3).bind fun bt583 => (some (bt583.1, bt583.2))) else ((impl_Ref_70.f l0).bind fun t587 => (some (t587, 13)))) else (none)) else (none)) = some (r1, r2) := by rw [if_pos rfl] at H; exact H
        clear H
        have H := H1
        clear H1
        by_cases c11 : 0 ≤ t579
        · rw [if_pos c11] at H
          have c11b0 : decide (0 ≤ t579) = true := decide_eq_true c11
          clear c11
          by_cases c12 : t579 < (l0.length : Int)
          · rw [if_pos c12] at H
            have c12b0 : decide (t579 < (l0.length : Int)) = true := decide_eq_true c12
            clear c12
            by_cases c13 : ((rd_T79 l0 t579).f2) = a2
            · rw [if_pos c13] at H
              have c13b0 : (((rd_T79 l0 t579).f2) == a2) = true := beq_iff_eq.mpr c13
              have c13b1 : (((rd_T79 l0 t579).f2) != a2) = false := bne_eq_false_iff_eq.mpr c13
              clear c13
              replace H := Option.bind_eq_some_iff.mp H
              obtain ⟨⟨t583, t584⟩, A140, H⟩ := H
              replace H : (some (t583, t584)) = some (r1, r2) := H
              have A14 := Aside0.mk A140
              clear A140
              simp only [Option.some.injEq, Prod.mk.injEq] at H
              obtain ⟨rfl, rfl⟩ := H
              go_enter Try.func29, Try.ntmps29
              go_wp2_with (first | ((with_reducible refine gate_callee (f := 58) rfl ?_); refine goesL_ (some 15) rfl rfl Try.func58 (by kernel_rfl) rfl #[.slice A0 l0.length c0, .string a1] rfl gA ?_; (with_reducible refine (impl_refsCode.calls k _ _ l0 a1 t578 _ ?side1 ?side2 A5.out).mono ?_); (case side1 => exact cN HR0); (case side2 => exact HC0.out); rintro e w15 ⟨rfl, hb⟩; refine ⟨_, rfl, ?_⟩; have n0_ := Aside0.mk (below_step (w := w) bW hb); clear HB; have HB := n0_; clear n0_; (try clear hb); (try clear hb2); (try clear hk); (try clear hi)) | ((with_reducible refine gate_callee (f := 59) rfl ?_); refine goesL_ (some 22) rfl rfl Try.func59 (by kernel_rfl) rfl #[.slice A0 l0.length c0, .string a1] rfl gA ?_; (with_reducible refine (impl_live.calls _ _ l0 a1 t579 true _ ?side1 ?side2 A7.out).mono ?_); (case side1 => exact cB HR0); (case side2 => exact HC0.out); rintro e w16 ⟨rfl, hb⟩; refine ⟨_, rfl, ?_⟩; have n0_ := Aside0.mk (below_step (w := w) bW hb); clear HB; have HB := n0_; clear n0_; (try clear hb); (try clear hb2); (try clear hk); (try clear hi)) | ((with_reducible refine gate_callee (f := 63) rfl ?_); refine goesL_ (some 27) rfl rfl Try.func63 (by kernel_rfl) rfl #[.int .i64 a3] rfl gA ?_; (with_reducible refine (impl_isHead.calls a3 true _ A8.out).mono ?_); rintro e w' ⟨rfl, ⟨nd, rfl⟩⟩; refine ⟨_, rfl, ?_⟩; have p582 : 0 ≤ (t579 : Int) := odt; have q582 : t579 < (l0.length : Int) := odt; obtain ⟨ad582, e582, hx582_0, hx582_1, hx582_2, hx582_3⟩ := at_T79 HR0.out t579 p582 q582; cases e582; replace hx582_0 := (HB.out.cell (World.block_lt_of_cell? w _ hx582_0)).trans hx582_0; replace hx582_1 := (HB.out.cell (World.block_lt_of_cell? w _ hx582_1)).trans hx582_1; replace hx582_2 := (HB.out.cell (World.block_lt_of_cell? w _ hx582_2)).trans hx582_2; replace hx582_3 := (HB.out.cell (World.block_lt_of_cell? w _ hx582_3)).trans hx582_3; replace p582 := eq_true p582; replace q582 := eq_true q582) | ((with_reducible refine gate_callee (f := 71) rfl ?_); refine goesL_ (some 47) rfl rfl Try.func71 (by kernel_rfl) rfl #[.slice (some ad582) l0.length c0, .int .i64 t579, .int .i64 a3] rfl gA ?_; (with_reducible refine (impl_moved.calls _ _ l0 t579 a3 t583 t584 _ ?side1 ?side2 A14.out).mono ?_); (case side1 => exact cB HR0); (case side2 => exact HC0.out); rintro e w17 ⟨v585, rfl, ho0, hb⟩; refine ⟨_, rfl, ?_⟩; have n0_ := Aside0.mk (Kd.R_lower ho0 (below_size (w := w) bW)); have n1_ := Aside0.mk (below_step (w := w) bW hb); clear HB; have HO586 := n0_; have HB := n1_; clear n0_ n1_; (try clear hb); (try clear hb2); (try clear hk); (try clear hi); (try clear ho0)))
              go_ret2
              exact ⟨_, by first | rfl | (simp [errW_none, errW_some] <;> rfl) | (simp [*, errW_none, errW_some] <;> rfl), by (with_reducible repeat (first | apply Kd.R_alloc | apply Kd.R_drewN | apply Kd.R_drew)); exact HO586.out, bW⟩
            · rw [if_neg c13] at H
              have c13b0 : (((rd_T79 l0 t579).f2) == a2) = false := beq_eq_false_iff_ne.mpr c13
              have c13b1 : (((rd_T79 l0 t579).f2) != a2) = true := bne_iff_ne.mpr c13
              replace H := Option.bind_eq_some_iff.mp H
              obtain ⟨t587, A180, H⟩ := H
              replace H : (some (t587, 13)) = some (r1, r2) := H
              have A18 := Aside0.mk A180
              clear A180
              simp only [Option.some.injEq, Prod.mk.injEq] at H
              obtain ⟨rfl, rfl⟩ := H
              go_enter Try.func29, Try.ntmps29
              go_wp2_with (first | ((with_reducible refine gate_callee (f := 58) rfl ?_); refine goesL_ (some 15) rfl rfl Try.func58 (by kernel_rfl) rfl #[.slice A0 l0.length c0, .string a1] rfl gA ?_; (with_reducible refine (impl_refsCode.calls k _ _ l0 a1 t578 _ ?side1 ?side2 A5.out).mono ?_); (case side1 => exact cN HR0); (case side2 => exact HC0.out); rintro e w19 ⟨rfl, hb⟩; refine ⟨_, rfl, ?_⟩; have n0_ := Aside0.mk (below_step (w := w) bW hb); clear HB; have HB := n0_; clear n0_; (try clear hb); (try clear hb2); (try clear hk); (try clear hi)) | ((with_reducible refine gate_callee (f := 59) rfl ?_); refine goesL_ (some 22) rfl rfl Try.func59 (by kernel_rfl) rfl #[.slice A0 l0.length c0, .string a1] rfl gA ?_; (with_reducible refine (impl_live.calls _ _ l0 a1 t579 true _ ?side1 ?side2 A7.out).mono ?_); (case side1 => exact cB HR0); (case side2 => exact HC0.out); rintro e w20 ⟨rfl, hb⟩; refine ⟨_, rfl, ?_⟩; have n0_ := Aside0.mk (below_step (w := w) bW hb); clear HB; have HB := n0_; clear n0_; (try clear hb); (try clear hb2); (try clear hk); (try clear hi)) | ((with_reducible refine gate_callee (f := 63) rfl ?_); refine goesL_ (some 27) rfl rfl Try.func63 (by kernel_rfl) rfl #[.int .i64 a3] rfl gA ?_; (with_reducible refine (impl_isHead.calls a3 true _ A8.out).mono ?_); rintro e w' ⟨rfl, ⟨nd, rfl⟩⟩; refine ⟨_, rfl, ?_⟩; have p582 : 0 ≤ (t579 : Int) := odt; have q582 : t579 < (l0.length : Int) := odt; obtain ⟨ad582, e582, hx582_0, hx582_1, hx582_2, hx582_3⟩ := at_T79 HR0.out t579 p582 q582; cases e582; replace hx582_0 := (HB.out.cell (World.block_lt_of_cell? w _ hx582_0)).trans hx582_0; replace hx582_1 := (HB.out.cell (World.block_lt_of_cell? w _ hx582_1)).trans hx582_1; replace hx582_2 := (HB.out.cell (World.block_lt_of_cell? w _ hx582_2)).trans hx582_2; replace hx582_3 := (HB.out.cell (World.block_lt_of_cell? w _ hx582_3)).trans hx582_3; replace p582 := eq_true p582; replace q582 := eq_true q582) | ((with_reducible refine gate_callee (f := 70) rfl ?_); refine goesL_ (some 43) rfl rfl Try.func70 (by kernel_rfl) rfl #[.slice (some ad582) l0.length c0] rfl gA ?_; (with_reducible refine (impl_Ref_70.calls _ _ l0 t587 _ ?side1 ?side2 A18.out).mono ?_); (case side1 => exact cB HR0); (case side2 => exact HC0.out); rintro e w21 ⟨v588, rfl, ho0, hb⟩; refine ⟨_, rfl, ?_⟩; have n0_ := Aside0.mk (Kd.R_lower ho0 (below_size (w := w) bW)); have n1_ := Aside0.mk (below_step (w := w) bW hb); clear HB; have HO589 := n0_; have HB := n1_; clear n0_ n1_; (try clear hb); (try clear hb2); (try clear hk); (try clear hi); (try clear ho0)))
              go_ret2
              exact ⟨_, by first | rfl | (simp [errW_none, errW_some] <;> rfl) | (simp [*, errW_none, errW_some] <;> rfl), by (with_reducible repeat (first | apply Kd.R_alloc | apply Kd.R_drewN | apply Kd.R_drew)); exact HO589.out, bW⟩
          · rw [if_neg c12] at H
            exact absurd H (by simp)
        · rw [if_neg c11] at H
          exact absurd H (by simp)
      · replace c10 := Bool.eq_false_iff.mpr c10
        subst c10
        have H1 : ((impl_Ref_70.f l0).bind fun t590 => (some (t590, 10))) = some (r1, r2) := by rw [if_neg (show ¬ (false = true) by decide)] at H; exact H
        clear H
        have H := H1
        clear H1
        replace H := Option.bind_eq_some_iff.mp H
        obtain ⟨t590, A220, H⟩ := H
        replace H : (some (t590, 10)) = some (r1, r2) := H
        have A22 := Aside0.mk A220
        clear A220
        simp only [Option.some.injEq, Prod.mk.injEq] at H
        obtain ⟨rfl, rfl⟩ := H
        go_enter Try.func29, Try.ntmps29
        go_wp2_with (first | ((with_reducible refine gate_callee (f := 58) rfl ?_); refine goesL_ (some 15) rfl rfl Try.func58 (by kernel_rfl) rfl #[.slice A0 l0.length c0, .string a1] rfl gA ?_; (with_reducible refine (impl_refsCode.calls k _ _ l0 a1 t578 _ ?side1 ?side2 A5.out).mono ?_); (case side1 => exact cN HR0); (case side2 => exact HC0.out); rintro e w23 ⟨rfl, hb⟩; refine ⟨_, rfl, ?_⟩; have n0_ := Aside0.mk (below_step (w := w) bW hb); clear HB; have HB := n0_; clear n0_; (try clear hb); (try clear hb2); (try clear hk); (try clear hi)) | ((with_reducible refine gate_callee (f := 59) rfl ?_); refine goesL_ (some 22) rfl rfl Try.func59 (by kernel_rfl) rfl #[.slice A0 l0.length c0, .string a1] rfl gA ?_; (with_reducible refine (impl_live.calls _ _ l0 a1 t579 false _ ?side1 ?side2 A7.out).mono ?_); (case side1 => exact cB HR0); (case side2 => exact HC0.out); rintro e w24 ⟨rfl, hb⟩; refine ⟨_, rfl, ?_⟩; have n0_ := Aside0.mk (below_step (w := w) bW hb); clear HB; have HB := n0_; clear n0_; (try clear hb); (try clear hb2); (try clear hk); (try clear hi)) | ((with_reducible refine gate_callee (f := 63) rfl ?_); refine goesL_ (some 27) rfl rfl Try.func63 (by kernel_rfl) rfl #[.int .i64 a3] rfl gA ?_; (with_reducible refine (impl_isHead.calls a3 true _ A8.out).mono ?_); rintro e w' ⟨rfl, ⟨nd, rfl⟩⟩; refine ⟨_, rfl, ?_⟩) | ((with_reducible refine gate_callee (f := 70) rfl ?_); refine goesL_ (some 33) rfl rfl Try.func70 (by kernel_rfl) rfl #[.slice A0 l0.length c0] rfl gA ?_; (with_reducible refine (impl_Ref_70.calls _ _ l0 t590 _ ?side1 ?side2 A22.out).mono ?_); (case side1 => exact cB HR0); (case side2 => exact HC0.out); rintro e w25 ⟨v591, rfl, ho0, hb⟩; refine ⟨_, rfl, ?_⟩; have n0_ := Aside0.mk (Kd.R_lower ho0 (below_size (w := w) bW)); have n1_ := Aside0.mk (below_step (w := w) bW hb); clear HB; have HO592 := n0_; have HB := n1_; clear n0_ n1_; (try clear hb); (try clear hb2); (try clear hk); (try clear hi); (try clear ho0)))
        go_ret2
        exact ⟨_, by first | rfl | (simp [errW_none, errW_some] <;> rfl) | (simp [*, errW_none, errW_some] <;> rfl), by (with_reducible repeat (first | apply Kd.R_alloc | apply Kd.R_drewN | apply Kd.R_drew)); exact HO592.out, bW⟩
    · replace c9 := Bool.eq_false_iff.mpr c9
      subst c9
      have H1 : (some (([] : List (S79)), 4)) = some (r1, r2) := by rw [if_neg (show ¬ (false = true) by decide)] at H; exact H
      clear H
      have H := H1
      clear H1
      simp only [Option.some.injEq, Prod.mk.injEq] at H
      obtain ⟨rfl, rfl⟩ := H
      go_enter Try.func29, Try.ntmps29
      go_wp2_with (first | ((with_reducible refine gate_callee (f := 58) rfl ?_); refine goesL_ (some 15) rfl rfl Try.func58 (by kernel_rfl) rfl #[.slice A0 l0.length c0, .string a1] rfl gA ?_; (with_reducible refine (impl_refsCode.calls k _ _ l0 a1 t578 _ ?side1 ?side2 A5.out).mono ?_); (case side1 => exact cN HR0); (case side2 => exact HC0.out); rintro e w26 ⟨rfl, hb⟩; refine ⟨_, rfl, ?_⟩; have n0_ := Aside0.mk (below_step (w := w) bW hb); clear HB; have HB := n0_; clear n0_; (try clear hb); (try clear hb2); (try clear hk); (try clear hi)) | ((with_reducible refine gate_callee (f := 59) rfl ?_); refine goesL_ (some 22) rfl rfl Try.func59 (by kernel_rfl) rfl #[.slice A0 l0.length c0, .string a1] rfl gA ?_; (with_reducible refine (impl_live.calls _ _ l0 a1 t579 t580 _ ?side1 ?side2 A7.out).mono ?_); (case side1 => exact cB HR0); (case side2 => exact HC0.out); rintro e w27 ⟨rfl, hb⟩; refine ⟨_, rfl, ?_⟩; have n0_ := Aside0.mk (below_step (w := w) bW hb); clear HB; have HB := n0_; clear n0_; (try clear hb); (try clear hb2); (try clear hk); (try clear hi)) | ((with_reducible refine gate_callee (f := 63) rfl ?_); refine goesL_ (some 27) rfl rfl Try.func63 (by kernel_rfl) rfl #[.int .i64 a3] rfl gA ?_; (with_reducible refine (impl_isHead.calls a3 false _ A8.out).mono ?_); rintro e w' ⟨rfl, ⟨nd, rfl⟩⟩; refine ⟨_, rfl, ?_⟩))
      go_ret2
      exact ⟨_, by first | rfl | (simp [errW_none, errW_some] <;> rfl) | (simp [*, errW_none, errW_some] <;> rfl), by first | exact Kd.R_nil _ _ _ _ _ | exact Kd.N_nil _ _ _ _ _ | exact Kd.V_nil _ _ _ _ _ | exact Kd.Q_nil _ _ _ _ _ | exact Kd.S_nil _ _ _ _ _, bW⟩
  · rw [if_neg c6] at H
    have c6b0 : (t578 == 0) = false := beq_eq_false_iff_ne.mpr c6
    have c6b1 : (t578 != 0) = true := bne_iff_ne.mpr c6
    simp only [Option.some.injEq, Prod.mk.injEq] at H
    obtain ⟨rfl, rfl⟩ := H
    go_enter Try.func29, Try.ntmps29
    go_wp2_with (first | ((with_reducible refine gate_callee (f := 58) rfl ?_); refine goesL_ (some 15) rfl rfl Try.func58 (by kernel_rfl) rfl #[.slice A0 l0.length c0, .string a1] rfl gA ?_; (with_reducible refine (impl_refsCode.calls k _ _ l0 a1 t578 _ ?side1 ?side2 A5.out).mono ?_); (case side1 => exact cN HR0); (case side2 => exact HC0.out); rintro e w28 ⟨rfl, hb⟩; refine ⟨_, rfl, ?_⟩; have n0_ := Aside0.mk (below_step (w := w) bW hb); clear HB; have HB := n0_; clear n0_; (try clear hb); (try clear hb2); (try clear hk); (try clear hi)))
    go_ret2
    exact ⟨_, by first | rfl | (simp [errW_none, errW_some] <;> rfl) | (simp [*, errW_none, errW_some] <;> rfl), by first | exact Kd.R_nil _ _ _ _ _ | exact Kd.N_nil _ _ _ _ _ | exact Kd.V_nil _ _ _ _ _ | exact Kd.Q_nil _ _ _ _ _ | exact Kd.S_nil _ _ _ _ _, bW⟩
end Go.Proofs.Ytkmjmgkpcomldaa.Q
end

section
namespace Go.Proofs.Ytkmjmgkpcomldaa.Q
open Go.RowKit Go.Proofs.YtkmjmgkpcomldaaW.PrintWords Go.Proofs.YtkmjmgkpcomldaaW.PrintLast Go.Proofs.YtkmjmgkpcomldaaW.PrintMore
attribute [local go_sem] max2_int min2_int max_two min_two max_three min_three max_four min_four   -- for this text's walks alone
set_option linter.unusedVariables false
set_option linter.unusedSimpArgs false
attribute [local go_sem] bin_leq bin_gtr bin_geq
def spec_l04Swap.f (k : Nat) (l0 : List (S79)) (a1 : ByteArray) (a2 : Int) (a3 : Int) : Option ((List (S79)) × Int) := (spec_l04Live.f k l0 a1).bind fun t593 => (if t593 < 0 then (some (l0, 10)) else (if 0 ≤ t593 then (if t593 < (l0.length : Int) then (if ((rd_T79 l0 t593).f2) = a2 then (if a2 = 1000000 then (some (l0, 7)) else ((spec_l04Set.f l0 t593 a3 false).bind fun t595 => (some (t595, 0)))) else (some (l0, 13))) else (none)) else (none)))
set_option maxHeartbeats 8000000 in
set_option maxRecDepth 100000 in
theorem spec_l04Swap.calls (k : Nat) (P0_ : Nat → Prop) (A0 : Option Addr) (c0 : Nat) (l0 : List (S79)) (a1 : ByteArray) (a2 : Int) (a3 : Int) (r1 : List (S79)) (r2 : Int) (w : World) (hs0 : Kd.V k79 79 w w.heap.size (fun k_ => P0_ k_) (.slice A0 l0.length c0) l0) (h : spec_l04Swap.f k l0 a1 a2 a3 = some (r1, r2)) :
    Calls Try.prog 72 #[.slice A0 l0.length c0, .string a1, .int .i64 a2, .int .i64 a3] w fun e w' => ∃ v0_ : Value, e = .returned (.tuple #[v0_, .int .i64 r2]) ∧ Kd.V k79 79 w' w.heap.size (fun k_ => (P0_ k_ ∨ w.heap.size ≤ k_)) v0_ r1 ∧ Below w.heap.size w w' := by
  have HO0 := Aside0.mk (show Kd.V k79 79 w w.heap.size (fun k_ => (P0_ k_ ∨ w.heap.size ≤ k_)) (.slice A0 l0.length c0) l0 from Kd.V_mono hs0 (fun k_ hk => .inl hk))
  have HB := Aside0.mk (Below.refl w.heap.size w)
  have H : ((spec_l04Live.f k l0 a1).bind fun t593 => (if t593 < 0 then (some (l0, 10)) else (if 0 ≤ t593 then (if t593 < (l0.length : Int) then (if ((rd_T79 l0 t593).f2) = a2 then (if a2 = 1000000 then (some (l0, 7)) else ((spec_l04Set.f l0 t593 a3 false).bind fun t595 => (some (t595, 0)))) else (some (l0, 13))) else (none)) else (none)))) = some (r1, r2) := h
  clear h
  replace H := Option.bind_eq_some_iff.mp H
  obtain ⟨t593, A50, H⟩ := H
  replace H : (if t593 < 0 then (some (l0, 10)) else (if 0 ≤ t593 then (if t593 < (l0.length : Int) then (if ((rd_T79 l0 t593).f2) = a2 then (if a2 = 1000000 then (some (l0, 7)) else ((spec_l04Set.f l0 t593 a3 false).bind fun t595 => (some (t595, 0)))) else (some (l0, 13))) else (none)) else (none))) = some (r1, r2) := H
  have A5 := Aside0.mk A50
  clear A50
  by_cases c6 : t593 < 0
  · rw [if_pos c6] at H
    have c6b0 : decide (t593 < 0) = true := decide_eq_true c6
    clear c6
    simp only [Option.some.injEq, Prod.mk.injEq] at H
    obtain ⟨rfl, rfl⟩ := H
    go_enter Try.func72, Try.ntmps72
    go_wp2_with (first | ((with_reducible refine gate_callee (f := 61) rfl ?_); refine goesL_ (some 13) rfl rfl Try.func61 (by kernel_rfl) rfl #[.slice A0 l0.length c0, .string a1] rfl gA ?_; (with_reducible refine (spec_l04Live.calls k _ _ l0 a1 t593 _ ?side1 ?side2 A5.out).mono ?_); (case side1 => repeat (first | exact (Kd.V_reads' HO0.out).2.2 | (with_reducible refine Kd.C_alloc ?_ _) | (with_reducible refine Kd.C_drewN ?_ _) | (with_reducible refine Kd.C_drew ?_))); (case side2 => exact (Kd.V_reads' HO0.out).2.1); rintro e w' ⟨rfl, ⟨nd, rfl⟩⟩; refine ⟨_, rfl, ?_⟩))
    go_ret2
    exact ⟨_, by first | rfl | (simp [errW_none, errW_some] <;> rfl) | (simp [*, errW_none, errW_some] <;> rfl), by (with_reducible repeat (first | apply Kd.V_alloc | apply Kd.V_drewN | apply Kd.V_drew)); exact HO0.out, bW⟩
  · rw [if_neg c6] at H
    have c6b0 : decide (t593 < 0) = false := decide_eq_false c6
    clear c6
    by_cases c7 : 0 ≤ t593
    · rw [if_pos c7] at H
      have c7b0 : decide (0 ≤ t593) = true := decide_eq_true c7
      clear c7
      by_cases c8 : t593 < (l0.length : Int)
      · rw [if_pos c8] at H
        have c8b0 : decide (t593 < (l0.length : Int)) = true := decide_eq_true c8
        clear c8
        by_cases c9 : ((rd_T79 l0 t593).f2) = a2
        · rw [if_pos c9] at H
          have c9b0 : (((rd_T79 l0 t593).f2) == a2) = true := beq_iff_eq.mpr c9
          have c9b1 : (((rd_T79 l0 t593).f2) != a2) = false := bne_eq_false_iff_eq.mpr c9
          clear c9
          by_cases c10 : a2 = 1000000
          · rw [if_pos c10] at H
            have c10b0 : (a2 == 1000000) = true := beq_iff_eq.mpr c10
            have c10b1 : (a2 != 1000000) = false := bne_eq_false_iff_eq.mpr c10
            clear c10
            simp only [Option.some.injEq, Prod.mk.injEq] at H
            obtain ⟨rfl, rfl⟩ := H
            go_enter Try.func72, Try.ntmps72
            go_wp2_with (first | ((with_reducible refine gate_callee (f := 61) rfl ?_); refine goesL_ (some 13) rfl rfl Try.func61 (by kernel_rfl) rfl #[.slice A0 l0.length c0, .string a1] rfl gA ?_; (with_reducible refine (spec_l04Live.calls k _ _ l0 a1 t593 _ ?side1 ?side2 A5.out).mono ?_); (case side1 => repeat (first | exact (Kd.V_reads' HO0.out).2.2 | (with_reducible refine Kd.C_alloc ?_ _) | (with_reducible refine Kd.C_drewN ?_ _) | (with_reducible refine Kd.C_drew ?_))); (case side2 => exact (Kd.V_reads' HO0.out).2.1); rintro e w' ⟨rfl, ⟨nd, rfl⟩⟩; refine ⟨_, rfl, ?_⟩; have p594 : 0 ≤ (t593 : Int) := odt; have q594 : t593 < (l0.length : Int) := odt; obtain ⟨ad594, e594, hx594_0, hx594_1, hx594_2, hx594_3⟩ := at_T79 (Kd.V_reads' HO0.out).2.2 t593 p594 q594; cases e594; replace p594 := eq_true p594; replace q594 := eq_true q594))
            go_ret2
            exact ⟨_, by first | rfl | (simp [errW_none, errW_some] <;> rfl) | (simp [*, errW_none, errW_some] <;> rfl), by (with_reducible repeat (first | apply Kd.V_alloc | apply Kd.V_drewN | apply Kd.V_drew)); exact HO0.out, bW⟩
          · rw [if_neg c10] at H
            have c10b0 : (a2 == 1000000) = false := beq_eq_false_iff_ne.mpr c10
            have c10b1 : (a2 != 1000000) = true := bne_iff_ne.mpr c10
            replace H := Option.bind_eq_some_iff.mp H
            obtain ⟨t595, A110, H⟩ := H
            replace H : (some (t595, 0)) = some (r1, r2) := H
            have A11 := Aside0.mk A110
            clear A110
            simp only [Option.some.injEq, Prod.mk.injEq] at H
            obtain ⟨rfl, rfl⟩ := H
            go_enter Try.func72, Try.ntmps72
            go_wp2_with (first | ((with_reducible refine gate_callee (f := 61) rfl ?_); refine goesL_ (some 13) rfl rfl Try.func61 (by kernel_rfl) rfl #[.slice A0 l0.length c0, .string a1] rfl gA ?_; (with_reducible refine (spec_l04Live.calls k _ _ l0 a1 t593 _ ?side1 ?side2 A5.out).mono ?_); (case side1 => repeat (first | exact (Kd.V_reads' HO0.out).2.2 | (with_reducible refine Kd.C_alloc ?_ _) | (with_reducible refine Kd.C_drewN ?_ _) | (with_reducible refine Kd.C_drew ?_))); (case side2 => exact (Kd.V_reads' HO0.out).2.1); rintro e w' ⟨rfl, ⟨nd, rfl⟩⟩; refine ⟨_, rfl, ?_⟩; have p594 : 0 ≤ (t593 : Int) := odt; have q594 : t593 < (l0.length : Int) := odt; obtain ⟨ad594, e594, hx594_0, hx594_1, hx594_2, hx594_3⟩ := at_T79 (Kd.V_reads' HO0.out).2.2 t593 p594 q594; cases e594; replace p594 := eq_true p594; replace q594 := eq_true q594) | ((with_reducible refine gate_callee (f := 98) rfl ?_); refine goesL_ (some 34) rfl rfl Try.func98 (by kernel_rfl) rfl #[.slice (some ad594) l0.length c0, .int .i64 t593, .int .i64 a3, .bool false] rfl gA ?_; (with_reducible refine (spec_l04Set.calls _ _ l0 t593 a3 false t595 _ ?side1 ?side2 A11.out).mono ?_); (case side1 => repeat (first | exact (Kd.V_reads' HO0.out).2.2 | (with_reducible refine Kd.C_alloc ?_ _) | (with_reducible refine Kd.C_drewN ?_ _) | (with_reducible refine Kd.C_drew ?_))); (case side2 => exact (Kd.V_reads' HO0.out).2.1); rintro e w12 ⟨v596, rfl, ho0, hb⟩; refine ⟨_, rfl, ?_⟩; have n0_ := Aside0.mk (Kd.V_elder' (by (with_reducible repeat (first | apply Kd.V_alloc | apply Kd.V_drewN | apply Kd.V_drew)); exact HO0.out) (Kd.R_base ho0) hb); have n1_ := Aside0.mk (Kd.R_lower (Kd.R_newM (M := fun k_ => (w.heap.size ≤ k_)) ho0 (below_size (w := w) bW) (fun k_ h_ => h_)) (below_size (w := w) bW)); have n2_ := Aside0.mk (below_step (w := w) bW hb); clear HO0; clear HB; have HO0 := n0_; have HO597 := n1_; have HB := n2_; clear n0_ n1_ n2_; (try clear hb); (try clear hb2); (try clear hk); (try clear hi); (try clear ho0)))
            go_ret2
            exact ⟨_, by first | rfl | (simp [errW_none, errW_some] <;> rfl) | (simp [*, errW_none, errW_some] <;> rfl), Kd.V_mono (Kd.R_V (by (with_reducible repeat (first | apply Kd.R_alloc | apply Kd.R_drewN | apply Kd.R_drew)); exact Kd.R_mono HO597.out (fun _ hk => hk.1))) (fun k_ hk => by first | exact ⟨(.inr (hk.1)), hk.2⟩ | exact (.inr (hk))), bW⟩
        · rw [if_neg c9] at H
          have c9b0 : (((rd_T79 l0 t593).f2) == a2) = false := beq_eq_false_iff_ne.mpr c9
          have c9b1 : (((rd_T79 l0 t593).f2) != a2) = true := bne_iff_ne.mpr c9
          simp only [Option.some.injEq, Prod.mk.injEq] at H
          obtain ⟨rfl, rfl⟩ := H
          go_enter Try.func72, Try.ntmps72
          go_wp2_with (first | ((with_reducible refine gate_callee (f := 61) rfl ?_); refine goesL_ (some 13) rfl rfl Try.func61 (by kernel_rfl) rfl #[.slice A0 l0.length c0, .string a1] rfl gA ?_; (with_reducible refine (spec_l04Live.calls k _ _ l0 a1 t593 _ ?side1 ?side2 A5.out).mono ?_); (case side1 => repeat (first | exact (Kd.V_reads' HO0.out).2.2 | (with_reducible refine Kd.C_alloc ?_ _) | (with_reducible refine Kd.C_drewN ?_ _) | (with_reducible refine Kd.C_drew ?_))); (case side2 => exact (Kd.V_reads' HO0.out).2.1); rintro e w' ⟨rfl, ⟨nd, rfl⟩⟩; refine ⟨_, rfl, ?_⟩; have p594 : 0 ≤ (t593 : Int) := odt; have q594 : t593 < (l0.length : Int) := odt; obtain ⟨ad594, e594, hx594_0, hx594_1, hx594_2, hx594_3⟩ := at_T79 (Kd.V_reads' HO0.out).2.2 t593 p594 q594; cases e594; replace p594 := eq_true p594; replace q594 := eq_true q594))
          go_ret2
          exact ⟨_, by first | rfl | (simp [errW_none, errW_some] <;> rfl) | (simp [*, errW_none, errW_some] <;> rfl), by (with_reducible repeat (first | apply Kd.V_alloc | apply Kd.V_drewN | apply Kd.V_drew)); exact HO0.out, bW⟩
      · rw [if_neg c8] at H
        exact absurd H (by simp)
    · rw [if_neg c7] at H
      exact absurd H (by simp)
end Go.Proofs.Ytkmjmgkpcomldaa.Q
end

section
namespace Go.Proofs.Ytkmjmgkpcomldaa.Q
open Go.RowKit Go.Proofs.YtkmjmgkpcomldaaW.PrintWords Go.Proofs.YtkmjmgkpcomldaaW.PrintLast Go.Proofs.YtkmjmgkpcomldaaW.PrintMore
attribute [local go_sem] max2_int min2_int max_two min_two max_three min_three max_four min_four   -- for this text's walks alone
set_option linter.unusedVariables false
set_option linter.unusedSimpArgs false
attribute [local go_sem] bin_leq bin_gtr bin_geq
def spec_SwapRef.j0 : Nat → List (S79) → ByteArray → Int → Int → Bool → Option ((List (S79)) × Int)
  | 0, _, _, _, _, _ => none
  | k + 1, x0, x1, x2, x3, x20 => if x20 = true then (some ((([] : List (S79))), 2)) else ((spec_l04Ask.f k x0 x1).bind fun t601 => (if t601 = 0 then ((spec_l01In.f x3 1 60).bind fun t605 => (if t605 = true then ((spec_l04Swap.f k x0 x1 x2 x3).bind fun bt606 => ((some (([] : List (S79)) : List (S79))).bind fun y610 => (if y610.length + bt606.1.length < 3518437208883 then (some ((y610 ++ bt606.1), bt606.2)) else (none)))) else (some ((([] : List (S79))), 4)))) else (some ((([] : List (S79))), t601))))
def spec_SwapRef.f (k : Nat) (l0 : List (S79)) (a1 : ByteArray) (a2 : Int) (a3 : Int) : Option ((List (S79)) × Int) := if (l0.length : Int) > 4096 then (spec_SwapRef.j0 k l0 a1 a2 a3 true) else (spec_SwapRef.j0 k l0 a1 a2 a3 (decide ((a1.size : Int) > 65536)))
set_option maxHeartbeats 8000000 in
set_option maxRecDepth 100000 in
theorem spec_SwapRef.calls (k : Nat) (A0 : Option Addr) (c0 : Nat) (l0 : List (S79)) (a1 : ByteArray) (a2 : Int) (a3 : Int) (r1 : List (S79)) (r2 : Int) (w : World) (hr0 : Kd.C k79 w A0 l0.length l0) (hc0 : l0.length ≤ c0) (h : spec_SwapRef.f k l0 a1 a2 a3 = some (r1, r2)) :
    Calls Try.prog 30 #[.slice A0 l0.length c0, .string a1, .int .i64 a2, .int .i64 a3] w fun e w' => ∃ v0_ : Value, e = .returned (.tuple #[v0_, .int .i64 r2]) ∧ Kd.R k79 79 w' w.heap.size (fun _ => True) v0_ r1 ∧ Below w.heap.size w w' := by
  have HR0 := Aside0.mk hr0
  have HC0 := Aside0.mk hc0
  clear hr0 hc0
  have HB := Aside0.mk (Below.refl w.heap.size w)
  have H : (if (l0.length : Int) > 4096 then (spec_SwapRef.j0 k l0 a1 a2 a3 true) else (spec_SwapRef.j0 k l0 a1 a2 a3 (decide ((a1.size : Int) > 65536)))) = some (r1, r2) := h
  clear h
  have HC5 := Aside0.mk H
  clear H
  go_enter Try.func30, Try.ntmps30
  go_upto_region 1 with (fail)
  go_cut [20] (fun v20 wc => ∃ (kq : Nat) (x20_4 : Bool), v20 = .bool x20_4 ∧ Aside0 (spec_SwapRef.j0 kq l0 a1 a2 a3 x20_4 = some (r1, r2)) ∧ Aside0 (kq ≤ k) ∧ Aside0 (Below w.heap.size w wc))
  case first =>
    have H := HC5.out
    clear HC5
    by_cases c6 : (l0.length : Int) > 4096
    · rw [if_pos c6] at H
      have c6b0 : decide (4096 < (l0.length : Int)) = true := decide_eq_true c6
      have c6b1 : decide (4096 < l0.length) = true := decide_eq_true (by omega)
      clear c6
      (first | rw [c6b0] | (simp only [i64_w, i32_w]; rw [c6b0]) | skip)
      have H' := Aside0.mk H
      clear H
      go_wp2
      go_meet
      case rel => exact ⟨_, (true), vE, H', ⟨by first | omega | exact Nat.le_refl _⟩, ⟨bW⟩⟩
    · rw [if_neg c6] at H
      have c6b0 : decide (4096 < (l0.length : Int)) = false := decide_eq_false c6
      have c6b1 : decide (4096 < l0.length) = false := decide_eq_false (by omega)
      clear c6
      (first | rw [c6b0] | (simp only [i64_w, i32_w]; rw [c6b0]) | skip)
      have H' := Aside0.mk H
      clear H
      go_wp2
      go_meet
      case rel => exact ⟨_, (decide ((a1.size : Int) > 65536)), vE, H', ⟨by first | omega | exact Nat.le_refl _⟩, ⟨bW⟩⟩
  case rest =>
    clear HC5
    try clear p2
    try clear c3
    try clear c6
    try clear c6b0
    try clear c6b1
    obtain ⟨kq, x20_4, rfl, HA, HJ4, HB⟩ := hcut
    cases kq with
    | zero => exact absurd HA.out (by simp [spec_SwapRef.j0])
    | succ kj4 =>
      have H := HA.out
      clear HA
      simp only [spec_SwapRef.j0] at H
      by_cases c7 : x20_4 = true
      · subst c7
        have H1 : (some ((([] : List (S79))), 2)) = some (r1, r2) := by rw [if_pos rfl] at H; exact H
        clear H
        have H := H1
        clear H1
        obtain ⟨y598, hy598⟩ : ∃ y_ : List (S79), y_ = (([] : List (S79))) := ⟨_, rfl⟩
        replace H : (some (y598, 2)) = some (r1, r2) := by first | (rw [hy598]; with_reducible exact H) | (have H2_ := (Option.bind_some _ _).symm.trans H; rw [hy598]; with_reducible exact H2_) | (have H2_ := (Option.bind_some _ _).symm.trans H; with_reducible exact H2_) | with_reducible exact H | (rw [hy598]; exact H) | exact H
        have Ny598 := Aside0.mk hy598
        clear hy598
        simp only [Option.some.injEq, Prod.mk.injEq] at H
        obtain ⟨rfl, rfl⟩ := H
        go_wp2_with (first | ((with_reducible refine gate_dst (N := 21) rfl ?_); (try (refine gate_guard (by rfl) ?_; dsimp only)); refine Kd.R_lit k79 _ 79 ?hg (N := 21) ?hd (xs := ([] : List (S79))) (inner := []) (ok := fun _ => True) (okp := fun _ => True) ?hr ?hp (fun _ hk => hk) trivial (Below.refl _ _) (Nat.le_refl _) (by simp) ?_; (case hd => rfl); (case hg => rfl); (case hr => first | (go_simp; done) | (go_simp; rfl)); (case hp => exact (Reps.none _ _)); intro v599 w8 ho9 hb hg_ hnew_; clear hg_ hnew_; (first | rw [← Ny598.out] at ho9 | (simp only [Int.reduceToNat] at ho9; rw [← Ny598.out] at ho9)); have n0_ := Aside0.mk (Kd.R_lower ho9 (below_size (w := w) bW)); have n1_ := Aside0.mk (below_step (w := w) bW hb); clear HB; have HO600 := n0_; have HB := n1_; clear n0_ n1_; clear hb ho9))
        go_ret2
        exact ⟨_, by first | rfl | (simp [errW_none, errW_some] <;> rfl) | (simp [*, errW_none, errW_some] <;> rfl), by (with_reducible repeat (first | apply Kd.R_alloc | apply Kd.R_drewN | apply Kd.R_drew)); exact HO600.out, bW⟩
      · replace c7 := Bool.eq_false_iff.mpr c7
        subst c7
        have H1 : ((spec_l04Ask.f kj4 l0 a1).bind fun t601 => (if t601 = 0 then ((spec_l01In.f a3 1 60).bind fun t605 => (if t605 = true then ((spec_l04Swap.f kj4 l0 a1 a2 a3).bind fun bt606 => ((some (([] : List (S79)) : List (S79))).bind fun y610 => (if y610.length + bt606.1.length < 3518437208883 then (some ((y610 ++ bt606.1), bt606.2)) else (none)))) else (some ((([] : List (S79))), 4)))) else (some ((([] : List (S79))), t601)))) = some (r1, r2) := by rw [if_neg (show ¬ (false = true) by decide)] at H; exact H
        clear H
        have H := H1
        clear H1
        replace H := Option.bind_eq_some_iff.mp H
        obtain ⟨t601, A100, H⟩ := H
        replace H : (if t601 = 0 then ((spec_l01In.f a3 1 60).bind fun t605 => (if t605 = true then ((spec_l04Swap.f kj4 l0 a1 a2 a3).bind fun bt606 => ((some (([] : List (S79)) : List (S79))).bind fun y610 => (if y610.length + bt606.1.length < 3518437208883 then (some ((y610 ++ bt606.1), bt606.2)) else (none)))) else (some ((([] : List (S79))), 4)))) else (some ((([] : List (S79))), t601))) = some (r1, r2) := H
        have A10 := Aside0.mk A100
        clear A100
        by_cases c11 : t601 = 0
        · rw [if_pos c11] at H
          have c11b0 : (t601 == 0) = true := beq_iff_eq.mpr c11
          have c11b1 : (t601 != 0) = false := bne_eq_false_iff_eq.mpr c11
          clear c11
          replace H := Option.bind_eq_some_iff.mp H
          obtain ⟨t605, A120, H⟩ := H
          replace H : (if t605 = true then ((spec_l04Swap.f kj4 l0 a1 a2 a3).bind fun bt606 => ((some (([] : List (S79)) : List (S79))).bind fun y610 => (if y610.length + bt606.1.length < 3518437208883 then (some ((y610 ++ bt606.1), bt606.2)) else (none)))) else (some ((([] : List (S79))), 4))) = some (r1, r2) := H
          have A12 := Aside0.mk A120
          clear A120
          by_cases c13 : t605 = true
          · subst c13
            have H1 : ((spec_l04Swap.f kj4 l0 a1 a2 a3).bind fun bt606 => ((some (([] : List (S79)) : List (S79))).bind fun y610 => (if y610.length + bt606.1.length < 3518437208883 then (some ((y610 ++ bt606.1), bt606.2)) else (none)))) = some (r1, r2) := by rw [if_pos rfl] at H; exact H
            clear H
            have H := H1
            clear H1
            replace H := Option.bind_eq_some_iff.mp H
            obtain ⟨⟨t606, t609⟩, A140, H⟩ := H
            replace H : ((some (([] : List (S79)) : List (S79))).bind fun y610 => (if y610.length + t606.length < 3518437208883 then (some ((y610 ++ t606), t609)) else (none))) = some (r1, r2) := H
            have A14 := Aside0.mk A140
            clear A140
            obtain ⟨y610, hy610⟩ : ∃ y_ : List (S79), y_ = (([] : List (S79))) := ⟨_, rfl⟩
            replace H : (if y610.length + t606.length < 3518437208883 then (some ((y610 ++ t606), t609)) else (none)) = some (r1, r2) := by first | (rw [hy610]; with_reducible exact H) | (have H2_ := (Option.bind_some _ _).symm.trans H; rw [hy610]; with_reducible exact H2_) | (have H2_ := (Option.bind_some _ _).symm.trans H; with_reducible exact H2_) | with_reducible exact H | (rw [hy610]; exact H) | exact H
            have Ny610 := Aside0.mk hy610
            clear hy610
            by_cases c15 : y610.length + t606.length < 3518437208883
            · rw [if_pos c15] at H
              have LMc15 := Aside0.mk c15
              clear c15
              obtain ⟨y613, hy613⟩ : ∃ y_ : List (S79), y_ = (y610 ++ t606) := ⟨_, rfl⟩
              replace H : (some (y613, t609)) = some (r1, r2) := by first | (rw [hy613]; with_reducible exact H) | (have H2_ := (Option.bind_some _ _).symm.trans H; rw [hy613]; with_reducible exact H2_) | (have H2_ := (Option.bind_some _ _).symm.trans H; with_reducible exact H2_) | with_reducible exact H | (rw [hy613]; exact H) | exact H
              have Ny613 := Aside0.mk hy613
              clear hy613
              simp only [Option.some.injEq, Prod.mk.injEq] at H
              obtain ⟨rfl, rfl⟩ := H
              go_wp2_with (first | ((with_reducible refine gate_callee (f := 60) rfl ?_); refine goesL_ (some 24) rfl rfl Try.func60 (by kernel_rfl) rfl #[.slice A0 l0.length c0, .string a1] rfl gA ?_; (with_reducible refine (spec_l04Ask.calls kj4 _ _ l0 a1 t601 _ ?side1 ?side2 A10.out).mono ?_); (case side1 => exact cB HR0); (case side2 => exact HC0.out); rintro e w16 ⟨rfl, hb⟩; refine ⟨_, rfl, ?_⟩; have n0_ := Aside0.mk (below_step (w := w) bW hb); clear HB; have HB := n0_; clear n0_; (try clear hb); (try clear hb2); (try clear hk); (try clear hi)) | ((with_reducible refine gate_callee (f := 44) rfl ?_); refine goesL_ (some 30) rfl rfl Try.func44 (by kernel_rfl) rfl #[.int .i64 a3, .int .i64 1, .int .i64 60] rfl gA ?_; (with_reducible refine (spec_l01In.calls a3 1 60 true _ A12.out).mono ?_); rintro e w' ⟨rfl, ⟨nd, rfl⟩⟩; refine ⟨_, rfl, ?_⟩) | ((with_reducible refine gate_callee (f := 72) rfl ?_); refine goesL_ (some 38) rfl rfl Try.func72 (by kernel_rfl) rfl #[.slice A0 l0.length c0, .string a1, .int .i64 a2, .int .i64 a3] rfl gA ?_; (with_reducible refine (spec_l04Swap.calls kj4 (fun k_ => k_ < w.heap.size) _ _ l0 a1 a2 a3 t606 t609 _ ?side1 A14.out).mono ?_); (case side1 => exact Kd.V_mk HC0.out (Kd.F_below (Kd.C_F k79_heap HR0.out) bW)); rintro e w17 ⟨v607, rfl, ho0, hb⟩; refine ⟨_, rfl, ?_⟩; have n0_ := Aside0.mk (Kd.V_lower (Kd.V_mono (ok' := fun k_ => True) ho0 (fun k_ hk_ => trivial)) (below_size (w := w) bW)); have n1_ := Aside0.mk (below_step (w := w) bW hb); clear HB; have HO608 := n0_; have HB := n1_; clear n0_ n1_; (try clear hb); (try clear hb2); (try clear hk); (try clear hi); (try clear ho0)) | ((with_reducible refine gate_dst (N := 41) rfl ?_); (try (refine gate_guard (by rfl) ?_; dsimp only)); refine Kd.R_lit k79 _ 79 ?hg (N := 41) ?hd (xs := ([] : List (S79))) (inner := []) (ok := fun _ => True) (okp := fun _ => True) ?hr ?hp (fun _ hk => hk) trivial (Below.refl _ _) (Nat.le_refl _) (by simp) ?_; (case hd => rfl); (case hg => rfl); (case hr => first | (go_simp; done) | (go_simp; rfl)); (case hp => exact (Reps.none _ _)); intro v611 w18 ho19 hb hg_ hnew_; clear hg_ hnew_; (first | rw [← Ny610.out] at ho19 | (simp only [Int.reduceToNat] at ho19; rw [← Ny610.out] at ho19)); have n0_ := Aside0.mk (Kd.V_elder' (by (with_reducible repeat (first | apply Kd.V_alloc | apply Kd.V_drewN | apply Kd.V_drew)); exact HO608.out) (Kd.R_base ho19) hb); have n1_ := Aside0.mk (Kd.R_lower ho19 (below_size (w := w) bW)); have n2_ := Aside0.mk (below_step (w := w) bW hb); clear HO608; clear HB; have HO608 := n0_; have HO612 := n1_; have HB := n2_; clear n0_ n1_ n2_; clear hb ho19; obtain ⟨Ao21, co21, eo21⟩ := Kd.V_slice HO608.out; subst eo21) | ((with_reducible refine gate_builtin (b := .append) (xs := #[.tmp 41, .tmp 42]) rfl ?_); (try (refine gate_guard (by rfl) ?_; dsimp only)); at_builtin; refine Kd.R_append_rows k79 (w0 := w) w.heap.size rfl (.tmp 41) (.tmp 42) 39 79 (.agg #[(.string ⟨#[]⟩), (.int .i64 0), (.int .i64 0), (.bool false)]) 40 rfl Try.underlying39 info79 rfl (by decide) (by omega) v611 y610 t606 _ _ _ (fun _ => True) (fun _ => False) rfl rfl ?aO ?aR (fun _ _ h => h) (fun _ h => h.elim) ?aF ?aB ?aS ?aL ?_; (case aR => repeat (first | exact (Kd.V_reads' HO608.out).2.2 | (with_reducible refine Kd.C_alloc ?_ _) | (with_reducible refine Kd.C_drewN ?_ _) | (with_reducible refine Kd.C_drew ?_))); (case aB => exact bW); (case aF => exact (fun _ _ => trivial)); (case aO => exact (pR HO612)); (case aS => exact (below_size (w := w) bW)); (case aL => have := LMc15.out; omega); intro v614 w20 ho hb hg hat; rw [← Ny613.out] at ho; have n0_ := Aside0.mk (Kd.V_afterv (ok := (fun _ => True)) (by (with_reducible repeat (first | apply Kd.V_alloc | apply Kd.V_drewN | apply Kd.V_drew)); exact HO608.out) hg hat); have n1_ := Aside0.mk (hb); have n2_ := Aside0.mk (ho); clear HO608; clear HB; clear HO612; have HO608 := n0_; have HB := n1_; have HO615 := n2_; clear n0_ n1_ n2_; clear ho hb hg hat))
              go_ret2
              exact ⟨_, by first | rfl | (simp [errW_none, errW_some] <;> rfl) | (simp [*, errW_none, errW_some] <;> rfl), by (with_reducible repeat (first | apply Kd.R_alloc | apply Kd.R_drewN | apply Kd.R_drew)); exact HO615.out, bW⟩
            · rw [if_neg c15] at H
              exact absurd H (by simp)
          · replace c13 := Bool.eq_false_iff.mpr c13
            subst c13
            have H1 : (some ((([] : List (S79))), 4)) = some (r1, r2) := by rw [if_neg (show ¬ (false = true) by decide)] at H; exact H
            clear H
            have H := H1
            clear H1
            obtain ⟨y616, hy616⟩ : ∃ y_ : List (S79), y_ = (([] : List (S79))) := ⟨_, rfl⟩
            replace H : (some (y616, 4)) = some (r1, r2) := by first | (rw [hy616]; with_reducible exact H) | (have H2_ := (Option.bind_some _ _).symm.trans H; rw [hy616]; with_reducible exact H2_) | (have H2_ := (Option.bind_some _ _).symm.trans H; with_reducible exact H2_) | with_reducible exact H | (rw [hy616]; exact H) | exact H
            have Ny616 := Aside0.mk hy616
            clear hy616
            simp only [Option.some.injEq, Prod.mk.injEq] at H
            obtain ⟨rfl, rfl⟩ := H
            go_wp2_with (first | ((with_reducible refine gate_callee (f := 60) rfl ?_); refine goesL_ (some 24) rfl rfl Try.func60 (by kernel_rfl) rfl #[.slice A0 l0.length c0, .string a1] rfl gA ?_; (with_reducible refine (spec_l04Ask.calls kj4 _ _ l0 a1 t601 _ ?side1 ?side2 A10.out).mono ?_); (case side1 => exact cB HR0); (case side2 => exact HC0.out); rintro e w22 ⟨rfl, hb⟩; refine ⟨_, rfl, ?_⟩; have n0_ := Aside0.mk (below_step (w := w) bW hb); clear HB; have HB := n0_; clear n0_; (try clear hb); (try clear hb2); (try clear hk); (try clear hi)) | ((with_reducible refine gate_callee (f := 44) rfl ?_); refine goesL_ (some 30) rfl rfl Try.func44 (by kernel_rfl) rfl #[.int .i64 a3, .int .i64 1, .int .i64 60] rfl gA ?_; (with_reducible refine (spec_l01In.calls a3 1 60 false _ A12.out).mono ?_); rintro e w' ⟨rfl, ⟨nd, rfl⟩⟩; refine ⟨_, rfl, ?_⟩) | ((with_reducible refine gate_dst (N := 32) rfl ?_); (try (refine gate_guard (by rfl) ?_; dsimp only)); refine Kd.R_lit k79 _ 79 ?hg (N := 32) ?hd (xs := ([] : List (S79))) (inner := []) (ok := fun _ => True) (okp := fun _ => True) ?hr ?hp (fun _ hk => hk) trivial (Below.refl _ _) (Nat.le_refl _) (by simp) ?_; (case hd => rfl); (case hg => rfl); (case hr => first | (go_simp; done) | (go_simp; rfl)); (case hp => exact (Reps.none _ _)); intro v617 w23 ho24 hb hg_ hnew_; clear hg_ hnew_; (first | rw [← Ny616.out] at ho24 | (simp only [Int.reduceToNat] at ho24; rw [← Ny616.out] at ho24)); have n0_ := Aside0.mk (Kd.R_lower ho24 (below_size (w := w) bW)); have n1_ := Aside0.mk (below_step (w := w) bW hb); clear HB; have HO618 := n0_; have HB := n1_; clear n0_ n1_; clear hb ho24))
            go_ret2
            exact ⟨_, by first | rfl | (simp [errW_none, errW_some] <;> rfl) | (simp [*, errW_none, errW_some] <;> rfl), by (with_reducible repeat (first | apply Kd.R_alloc | apply Kd.R_drewN | apply Kd.R_drew)); exact HO618.out, bW⟩
        · rw [if_neg c11] at H
          have c11b0 : (t601 == 0) = false := beq_eq_false_iff_ne.mpr c11
          have c11b1 : (t601 != 0) = true := bne_iff_ne.mpr c11
          obtain ⟨y602, hy602⟩ : ∃ y_ : List (S79), y_ = (([] : List (S79))) := ⟨_, rfl⟩
          replace H : (some (y602, t601)) = some (r1, r2) := by first | (rw [hy602]; with_reducible exact H) | (have H2_ := (Option.bind_some _ _).symm.trans H; rw [hy602]; with_reducible exact H2_) | (have H2_ := (Option.bind_some _ _).symm.trans H; with_reducible exact H2_) | with_reducible exact H | (rw [hy602]; exact H) | exact H
          have Ny602 := Aside0.mk hy602
          clear hy602
          simp only [Option.some.injEq, Prod.mk.injEq] at H
          obtain ⟨rfl, rfl⟩ := H
          go_wp2_with (first | ((with_reducible refine gate_callee (f := 60) rfl ?_); refine goesL_ (some 24) rfl rfl Try.func60 (by kernel_rfl) rfl #[.slice A0 l0.length c0, .string a1] rfl gA ?_; (with_reducible refine (spec_l04Ask.calls kj4 _ _ l0 a1 t601 _ ?side1 ?side2 A10.out).mono ?_); (case side1 => exact cB HR0); (case side2 => exact HC0.out); rintro e w25 ⟨rfl, hb⟩; refine ⟨_, rfl, ?_⟩; have n0_ := Aside0.mk (below_step (w := w) bW hb); clear HB; have HB := n0_; clear n0_; (try clear hb); (try clear hb2); (try clear hk); (try clear hi)) | ((with_reducible refine gate_dst (N := 27) rfl ?_); (try (refine gate_guard (by rfl) ?_; dsimp only)); refine Kd.R_lit k79 _ 79 ?hg (N := 27) ?hd (xs := ([] : List (S79))) (inner := []) (ok := fun _ => True) (okp := fun _ => True) ?hr ?hp (fun _ hk => hk) trivial (Below.refl _ _) (Nat.le_refl _) (by simp) ?_; (case hd => rfl); (case hg => rfl); (case hr => first | (go_simp; done) | (go_simp; rfl)); (case hp => exact (Reps.none _ _)); intro v603 w26 ho27 hb hg_ hnew_; clear hg_ hnew_; (first | rw [← Ny602.out] at ho27 | (simp only [Int.reduceToNat] at ho27; rw [← Ny602.out] at ho27)); have n0_ := Aside0.mk (Kd.R_lower ho27 (below_size (w := w) bW)); have n1_ := Aside0.mk (below_step (w := w) bW hb); clear HB; have HO604 := n0_; have HB := n1_; clear n0_ n1_; clear hb ho27))
          go_ret2
          exact ⟨_, by first | rfl | (simp [errW_none, errW_some] <;> rfl) | (simp [*, errW_none, errW_some] <;> rfl), by (with_reducible repeat (first | apply Kd.R_alloc | apply Kd.R_drewN | apply Kd.R_drew)); exact HO604.out, bW⟩
end Go.Proofs.Ytkmjmgkpcomldaa.Q
end

section
namespace Go.Proofs.Ytkmjmgkpcomldaa.Q
open Go.RowKit Go.Proofs.YtkmjmgkpcomldaaW.PrintWords Go.Proofs.YtkmjmgkpcomldaaW.PrintLast Go.Proofs.YtkmjmgkpcomldaaW.PrintMore
attribute [local go_sem] max2_int min2_int max_two min_two max_three min_three max_four min_four   -- for this text's walks alone
set_option linter.unusedVariables false
set_option linter.unusedSimpArgs false
attribute [local go_sem] bin_leq bin_gtr bin_geq
def impl_DeleteRef.f (k : Nat) (l0 : List (S79)) (a1 : ByteArray) : Option ((List (S79)) × Int) := (impl_refsCode.f k l0 a1).bind fun t619 => (if t619 = 0 then ((impl_live.f l0 a1).bind fun bt620 => (if bt620.2 = true then ((impl_moved.f l0 bt620.1 0).bind fun bt622 => (some (bt622.1, bt622.2))) else ((impl_Ref_70.f l0).bind fun t626 => (some (t626, 10))))) else (some (([] : List (S79)), t619)))
set_option maxHeartbeats 8000000 in
set_option maxRecDepth 100000 in
theorem impl_DeleteRef.calls (k : Nat) (A0 : Option Addr) (c0 : Nat) (l0 : List (S79)) (a1 : ByteArray) (r1 : List (S79)) (r2 : Int) (w : World) (hr0 : Kd.C k79 w A0 l0.length l0) (hc0 : l0.length ≤ c0) (h : impl_DeleteRef.f k l0 a1 = some (r1, r2)) :
    Calls Try.prog 31 #[.slice A0 l0.length c0, .string a1] w fun e w' => ∃ v0_ : Value, e = .returned (.tuple #[v0_, .int .i64 r2]) ∧ Kd.R k79 79 w' w.heap.size (fun _ => True) v0_ r1 ∧ Below w.heap.size w w' := by
  have HR0 := Aside0.mk hr0
  have HC0 := Aside0.mk hc0
  clear hr0 hc0
  have HB := Aside0.mk (Below.refl w.heap.size w)
  have H : ((impl_refsCode.f k l0 a1).bind fun t619 => (if t619 = 0 then ((impl_live.f l0 a1).bind fun bt620 => (if bt620.2 = true then ((impl_moved.f l0 bt620.1 0).bind fun bt622 => (some (bt622.1, bt622.2))) else ((impl_Ref_70.f l0).bind fun t626 => (some (t626, 10))))) else (some (([] : List (S79)), t619)))) = some (r1, r2) := h
  clear h
  replace H := Option.bind_eq_some_iff.mp H
  obtain ⟨t619, A30, H⟩ := H
  replace H : (if t619 = 0 then ((impl_live.f l0 a1).bind fun bt620 => (if bt620.2 = true then ((impl_moved.f l0 bt620.1 0).bind fun bt622 => (some (bt622.1, bt622.2))) else ((impl_Ref_70.f l0).bind fun t626 => (some (t626, 10))))) else (some (([] : List (S79)), t619))) = some (r1, r2) := H
  have A3 := Aside0.mk A30
  clear A30
  by_cases c4 : t619 = 0
  · rw [if_pos c4] at H
    have c4b0 : (t619 == 0) = true := beq_iff_eq.mpr c4
    have c4b1 : (t619 != 0) = false := bne_eq_false_iff_eq.mpr c4
    clear c4
    replace H := Option.bind_eq_some_iff.mp H
    obtain ⟨⟨t620, t621⟩, A50, H⟩ := H
    replace H : (if t621 = true then ((impl_moved.f l0 t620 0).bind fun bt622 => (some (bt622.1, bt622.2))) else ((impl_Ref_70.f l0).bind fun t626 => (some (t626, 10)))) = some (r1, r2) := H
    have A5 := Aside0.mk A50
    clear A50
    by_cases c6 : t621 = true
    · subst c6
      have H1 : ((impl_moved.f l0 t620 0).bind fun bt622 => (some (bt622.1, bt622.2))) = some (r1, r2) := by rw [if_pos rfl] at H; exact H
      clear H
      have H := H1
      clear H1
      replace H := Option.bind_eq_some_iff.mp H
      obtain ⟨⟨t622, t623⟩, A70, H⟩ := H
      replace H : (some (t622, t623)) = some (r1, r2) := H
      have A7 := Aside0.mk A70
      clear A70
      simp only [Option.some.injEq, Prod.mk.injEq] at H
      obtain ⟨rfl, rfl⟩ := H
      go_enter Try.func31, Try.ntmps31
      go_wp2_with (first | ((with_reducible refine gate_callee (f := 58) rfl ?_); refine goesL_ (some 11) rfl rfl Try.func58 (by kernel_rfl) rfl #[.slice A0 l0.length c0, .string a1] rfl gA ?_; (with_reducible refine (impl_refsCode.calls k _ _ l0 a1 t619 _ ?side1 ?side2 A3.out).mono ?_); (case side1 => exact cN HR0); (case side2 => exact HC0.out); rintro e w8 ⟨rfl, hb⟩; refine ⟨_, rfl, ?_⟩; have n0_ := Aside0.mk (below_step (w := w) bW hb); clear HB; have HB := n0_; clear n0_; (try clear hb); (try clear hb2); (try clear hk); (try clear hi)) | ((with_reducible refine gate_callee (f := 59) rfl ?_); refine goesL_ (some 18) rfl rfl Try.func59 (by kernel_rfl) rfl #[.slice A0 l0.length c0, .string a1] rfl gA ?_; (with_reducible refine (impl_live.calls _ _ l0 a1 t620 true _ ?side1 ?side2 A5.out).mono ?_); (case side1 => exact cB HR0); (case side2 => exact HC0.out); rintro e w9 ⟨rfl, hb⟩; refine ⟨_, rfl, ?_⟩; have n0_ := Aside0.mk (below_step (w := w) bW hb); clear HB; have HB := n0_; clear n0_; (try clear hb); (try clear hb2); (try clear hk); (try clear hi)) | ((with_reducible refine gate_callee (f := 71) rfl ?_); refine goesL_ (some 27) rfl rfl Try.func71 (by kernel_rfl) rfl #[.slice A0 l0.length c0, .int .i64 t620, .int .i64 0] rfl gA ?_; (with_reducible refine (impl_moved.calls _ _ l0 t620 0 t622 t623 _ ?side1 ?side2 A7.out).mono ?_); (case side1 => exact cB HR0); (case side2 => exact HC0.out); rintro e w10 ⟨v624, rfl, ho0, hb⟩; refine ⟨_, rfl, ?_⟩; have n0_ := Aside0.mk (Kd.R_lower ho0 (below_size (w := w) bW)); have n1_ := Aside0.mk (below_step (w := w) bW hb); clear HB; have HO625 := n0_; have HB := n1_; clear n0_ n1_; (try clear hb); (try clear hb2); (try clear hk); (try clear hi); (try clear ho0)))
      go_ret2
      exact ⟨_, by first | rfl | (simp [errW_none, errW_some] <;> rfl) | (simp [*, errW_none, errW_some] <;> rfl), by (with_reducible repeat (first | apply Kd.R_alloc | apply Kd.R_drewN | apply Kd.R_drew)); exact HO625.out, bW⟩
    · replace c6 := Bool.eq_false_iff.mpr c6
      subst c6
      have H1 : ((impl_Ref_70.f l0).bind fun t626 => (some (t626, 10))) = some (r1, r2) := by rw [if_neg (show ¬ (false = true) by decide)] at H; exact H
      clear H
      have H := H1
      clear H1
      replace H := Option.bind_eq_some_iff.mp H
      obtain ⟨t626, A110, H⟩ := H
      replace H : (some (t626, 10)) = some (r1, r2) := H
      have A11 := Aside0.mk A110
      clear A110
      simp only [Option.some.injEq, Prod.mk.injEq] at H
      obtain ⟨rfl, rfl⟩ := H
      go_enter Try.func31, Try.ntmps31
      go_wp2_with (first | ((with_reducible refine gate_callee (f := 58) rfl ?_); refine goesL_ (some 11) rfl rfl Try.func58 (by kernel_rfl) rfl #[.slice A0 l0.length c0, .string a1] rfl gA ?_; (with_reducible refine (impl_refsCode.calls k _ _ l0 a1 t619 _ ?side1 ?side2 A3.out).mono ?_); (case side1 => exact cN HR0); (case side2 => exact HC0.out); rintro e w12 ⟨rfl, hb⟩; refine ⟨_, rfl, ?_⟩; have n0_ := Aside0.mk (below_step (w := w) bW hb); clear HB; have HB := n0_; clear n0_; (try clear hb); (try clear hb2); (try clear hk); (try clear hi)) | ((with_reducible refine gate_callee (f := 59) rfl ?_); refine goesL_ (some 18) rfl rfl Try.func59 (by kernel_rfl) rfl #[.slice A0 l0.length c0, .string a1] rfl gA ?_; (with_reducible refine (impl_live.calls _ _ l0 a1 t620 false _ ?side1 ?side2 A5.out).mono ?_); (case side1 => exact cB HR0); (case side2 => exact HC0.out); rintro e w13 ⟨rfl, hb⟩; refine ⟨_, rfl, ?_⟩; have n0_ := Aside0.mk (below_step (w := w) bW hb); clear HB; have HB := n0_; clear n0_; (try clear hb); (try clear hb2); (try clear hk); (try clear hi)) | ((with_reducible refine gate_callee (f := 70) rfl ?_); refine goesL_ (some 24) rfl rfl Try.func70 (by kernel_rfl) rfl #[.slice A0 l0.length c0] rfl gA ?_; (with_reducible refine (impl_Ref_70.calls _ _ l0 t626 _ ?side1 ?side2 A11.out).mono ?_); (case side1 => exact cB HR0); (case side2 => exact HC0.out); rintro e w14 ⟨v627, rfl, ho0, hb⟩; refine ⟨_, rfl, ?_⟩; have n0_ := Aside0.mk (Kd.R_lower ho0 (below_size (w := w) bW)); have n1_ := Aside0.mk (below_step (w := w) bW hb); clear HB; have HO628 := n0_; have HB := n1_; clear n0_ n1_; (try clear hb); (try clear hb2); (try clear hk); (try clear hi); (try clear ho0)))
      go_ret2
      exact ⟨_, by first | rfl | (simp [errW_none, errW_some] <;> rfl) | (simp [*, errW_none, errW_some] <;> rfl), by (with_reducible repeat (first | apply Kd.R_alloc | apply Kd.R_drewN | apply Kd.R_drew)); exact HO628.out, bW⟩
  · rw [if_neg c4] at H
    have c4b0 : (t619 == 0) = false := beq_eq_false_iff_ne.mpr c4
    have c4b1 : (t619 != 0) = true := bne_iff_ne.mpr c4
    simp only [Option.some.injEq, Prod.mk.injEq] at H
    obtain ⟨rfl, rfl⟩ := H
    go_enter Try.func31, Try.ntmps31
    go_wp2_with (first | ((with_reducible refine gate_callee (f := 58) rfl ?_); refine goesL_ (some 11) rfl rfl Try.func58 (by kernel_rfl) rfl #[.slice A0 l0.length c0, .string a1] rfl gA ?_; (with_reducible refine (impl_refsCode.calls k _ _ l0 a1 t619 _ ?side1 ?side2 A3.out).mono ?_); (case side1 => exact cN HR0); (case side2 => exact HC0.out); rintro e w15 ⟨rfl, hb⟩; refine ⟨_, rfl, ?_⟩; have n0_ := Aside0.mk (below_step (w := w) bW hb); clear HB; have HB := n0_; clear n0_; (try clear hb); (try clear hb2); (try clear hk); (try clear hi)))
    go_ret2
    exact ⟨_, by first | rfl | (simp [errW_none, errW_some] <;> rfl) | (simp [*, errW_none, errW_some] <;> rfl), by first | exact Kd.R_nil _ _ _ _ _ | exact Kd.N_nil _ _ _ _ _ | exact Kd.V_nil _ _ _ _ _ | exact Kd.Q_nil _ _ _ _ _ | exact Kd.S_nil _ _ _ _ _, bW⟩
end Go.Proofs.Ytkmjmgkpcomldaa.Q
end

section
namespace Go.Proofs.Ytkmjmgkpcomldaa.Q
open Go.RowKit Go.Proofs.YtkmjmgkpcomldaaW.PrintWords Go.Proofs.YtkmjmgkpcomldaaW.PrintLast Go.Proofs.YtkmjmgkpcomldaaW.PrintMore
attribute [local go_sem] max2_int min2_int max_two min_two max_three min_three max_four min_four   -- for this text's walks alone
set_option linter.unusedVariables false
set_option linter.unusedSimpArgs false
attribute [local go_sem] bin_leq bin_gtr bin_geq
def spec_l04Delete.f (k : Nat) (l0 : List (S79)) (a1 : ByteArray) : Option ((List (S79)) × Int) := (spec_l04Live.f k l0 a1).bind fun t629 => (if t629 < 0 then (some (l0, 10)) else (if 0 ≤ t629 then (if t629 < (l0.length : Int) then (if ((rd_T79 l0 t629).f2) = 1000000 then (some (l0, 7)) else ((spec_l04Set.f l0 t629 0 true).bind fun t631 => (some (t631, 0)))) else (none)) else (none)))
set_option maxHeartbeats 8000000 in
set_option maxRecDepth 100000 in
theorem spec_l04Delete.calls (k : Nat) (P0_ : Nat → Prop) (A0 : Option Addr) (c0 : Nat) (l0 : List (S79)) (a1 : ByteArray) (r1 : List (S79)) (r2 : Int) (w : World) (hs0 : Kd.V k79 79 w w.heap.size (fun k_ => P0_ k_) (.slice A0 l0.length c0) l0) (h : spec_l04Delete.f k l0 a1 = some (r1, r2)) :
    Calls Try.prog 73 #[.slice A0 l0.length c0, .string a1] w fun e w' => ∃ v0_ : Value, e = .returned (.tuple #[v0_, .int .i64 r2]) ∧ Kd.V k79 79 w' w.heap.size (fun k_ => (P0_ k_ ∨ w.heap.size ≤ k_)) v0_ r1 ∧ Below w.heap.size w w' := by
  have HO0 := Aside0.mk (show Kd.V k79 79 w w.heap.size (fun k_ => (P0_ k_ ∨ w.heap.size ≤ k_)) (.slice A0 l0.length c0) l0 from Kd.V_mono hs0 (fun k_ hk => .inl hk))
  have HB := Aside0.mk (Below.refl w.heap.size w)
  have H : ((spec_l04Live.f k l0 a1).bind fun t629 => (if t629 < 0 then (some (l0, 10)) else (if 0 ≤ t629 then (if t629 < (l0.length : Int) then (if ((rd_T79 l0 t629).f2) = 1000000 then (some (l0, 7)) else ((spec_l04Set.f l0 t629 0 true).bind fun t631 => (some (t631, 0)))) else (none)) else (none)))) = some (r1, r2) := h
  clear h
  replace H := Option.bind_eq_some_iff.mp H
  obtain ⟨t629, A30, H⟩ := H
  replace H : (if t629 < 0 then (some (l0, 10)) else (if 0 ≤ t629 then (if t629 < (l0.length : Int) then (if ((rd_T79 l0 t629).f2) = 1000000 then (some (l0, 7)) else ((spec_l04Set.f l0 t629 0 true).bind fun t631 => (some (t631, 0)))) else (none)) else (none))) = some (r1, r2) := H
  have A3 := Aside0.mk A30
  clear A30
  by_cases c4 : t629 < 0
  · rw [if_pos c4] at H
    have c4b0 : decide (t629 < 0) = true := decide_eq_true c4
    clear c4
    simp only [Option.some.injEq, Prod.mk.injEq] at H
    obtain ⟨rfl, rfl⟩ := H
    go_enter Try.func73, Try.ntmps73
    go_wp2_with (first | ((with_reducible refine gate_callee (f := 61) rfl ?_); refine goesL_ (some 9) rfl rfl Try.func61 (by kernel_rfl) rfl #[.slice A0 l0.length c0, .string a1] rfl gA ?_; (with_reducible refine (spec_l04Live.calls k _ _ l0 a1 t629 _ ?side1 ?side2 A3.out).mono ?_); (case side1 => repeat (first | exact (Kd.V_reads' HO0.out).2.2 | (with_reducible refine Kd.C_alloc ?_ _) | (with_reducible refine Kd.C_drewN ?_ _) | (with_reducible refine Kd.C_drew ?_))); (case side2 => exact (Kd.V_reads' HO0.out).2.1); rintro e w' ⟨rfl, ⟨nd, rfl⟩⟩; refine ⟨_, rfl, ?_⟩))
    go_ret2
    exact ⟨_, by first | rfl | (simp [errW_none, errW_some] <;> rfl) | (simp [*, errW_none, errW_some] <;> rfl), by (with_reducible repeat (first | apply Kd.V_alloc | apply Kd.V_drewN | apply Kd.V_drew)); exact HO0.out, bW⟩
  · rw [if_neg c4] at H
    have c4b0 : decide (t629 < 0) = false := decide_eq_false c4
    clear c4
    by_cases c5 : 0 ≤ t629
    · rw [if_pos c5] at H
      have c5b0 : decide (0 ≤ t629) = true := decide_eq_true c5
      clear c5
      by_cases c6 : t629 < (l0.length : Int)
      · rw [if_pos c6] at H
        have c6b0 : decide (t629 < (l0.length : Int)) = true := decide_eq_true c6
        clear c6
        by_cases c7 : ((rd_T79 l0 t629).f2) = 1000000
        · rw [if_pos c7] at H
          have c7b0 : (((rd_T79 l0 t629).f2) == 1000000) = true := beq_iff_eq.mpr c7
          have c7b1 : (((rd_T79 l0 t629).f2) != 1000000) = false := bne_eq_false_iff_eq.mpr c7
          clear c7
          simp only [Option.some.injEq, Prod.mk.injEq] at H
          obtain ⟨rfl, rfl⟩ := H
          go_enter Try.func73, Try.ntmps73
          go_wp2_with (first | ((with_reducible refine gate_callee (f := 61) rfl ?_); refine goesL_ (some 9) rfl rfl Try.func61 (by kernel_rfl) rfl #[.slice A0 l0.length c0, .string a1] rfl gA ?_; (with_reducible refine (spec_l04Live.calls k _ _ l0 a1 t629 _ ?side1 ?side2 A3.out).mono ?_); (case side1 => repeat (first | exact (Kd.V_reads' HO0.out).2.2 | (with_reducible refine Kd.C_alloc ?_ _) | (with_reducible refine Kd.C_drewN ?_ _) | (with_reducible refine Kd.C_drew ?_))); (case side2 => exact (Kd.V_reads' HO0.out).2.1); rintro e w' ⟨rfl, ⟨nd, rfl⟩⟩; refine ⟨_, rfl, ?_⟩; have p630 : 0 ≤ (t629 : Int) := odt; have q630 : t629 < (l0.length : Int) := odt; obtain ⟨ad630, e630, hx630_0, hx630_1, hx630_2, hx630_3⟩ := at_T79 (Kd.V_reads' HO0.out).2.2 t629 p630 q630; cases e630; replace p630 := eq_true p630; replace q630 := eq_true q630))
          go_ret2
          exact ⟨_, by first | rfl | (simp [errW_none, errW_some] <;> rfl) | (simp [*, errW_none, errW_some] <;> rfl), by (with_reducible repeat (first | apply Kd.V_alloc | apply Kd.V_drewN | apply Kd.V_drew)); exact HO0.out, bW⟩
        · rw [if_neg c7] at H
          have c7b0 : (((rd_T79 l0 t629).f2) == 1000000) = false := beq_eq_false_iff_ne.mpr c7
          have c7b1 : (((rd_T79 l0 t629).f2) != 1000000) = true := bne_iff_ne.mpr c7
          replace H := Option.bind_eq_some_iff.mp H
          obtain ⟨t631, A80, H⟩ := H
          replace H : (some (t631, 0)) = some (r1, r2) := H
          have A8 := Aside0.mk A80
          clear A80
          simp only [Option.some.injEq, Prod.mk.injEq] at H
          obtain ⟨rfl, rfl⟩ := H
          go_enter Try.func73, Try.ntmps73
          go_wp2_with (first | ((with_reducible refine gate_callee (f := 61) rfl ?_); refine goesL_ (some 9) rfl rfl Try.func61 (by kernel_rfl) rfl #[.slice A0 l0.length c0, .string a1] rfl gA ?_; (with_reducible refine (spec_l04Live.calls k _ _ l0 a1 t629 _ ?side1 ?side2 A3.out).mono ?_); (case side1 => repeat (first | exact (Kd.V_reads' HO0.out).2.2 | (with_reducible refine Kd.C_alloc ?_ _) | (with_reducible refine Kd.C_drewN ?_ _) | (with_reducible refine Kd.C_drew ?_))); (case side2 => exact (Kd.V_reads' HO0.out).2.1); rintro e w' ⟨rfl, ⟨nd, rfl⟩⟩; refine ⟨_, rfl, ?_⟩; have p630 : 0 ≤ (t629 : Int) := odt; have q630 : t629 < (l0.length : Int) := odt; obtain ⟨ad630, e630, hx630_0, hx630_1, hx630_2, hx630_3⟩ := at_T79 (Kd.V_reads' HO0.out).2.2 t629 p630 q630; cases e630; replace p630 := eq_true p630; replace q630 := eq_true q630) | ((with_reducible refine gate_callee (f := 98) rfl ?_); refine goesL_ (some 22) rfl rfl Try.func98 (by kernel_rfl) rfl #[.slice (some ad630) l0.length c0, .int .i64 t629, .int .i64 0, .bool true] rfl gA ?_; (with_reducible refine (spec_l04Set.calls _ _ l0 t629 0 true t631 _ ?side1 ?side2 A8.out).mono ?_); (case side1 => repeat (first | exact (Kd.V_reads' HO0.out).2.2 | (with_reducible refine Kd.C_alloc ?_ _) | (with_reducible refine Kd.C_drewN ?_ _) | (with_reducible refine Kd.C_drew ?_))); (case side2 => exact (Kd.V_reads' HO0.out).2.1); rintro e w9 ⟨v632, rfl, ho0, hb⟩; refine ⟨_, rfl, ?_⟩; have n0_ := Aside0.mk (Kd.V_elder' (by (with_reducible repeat (first | apply Kd.V_alloc | apply Kd.V_drewN | apply Kd.V_drew)); exact HO0.out) (Kd.R_base ho0) hb); have n1_ := Aside0.mk (Kd.R_lower (Kd.R_newM (M := fun k_ => (w.heap.size ≤ k_)) ho0 (below_size (w := w) bW) (fun k_ h_ => h_)) (below_size (w := w) bW)); have n2_ := Aside0.mk (below_step (w := w) bW hb); clear HO0; clear HB; have HO0 := n0_; have HO633 := n1_; have HB := n2_; clear n0_ n1_ n2_; (try clear hb); (try clear hb2); (try clear hk); (try clear hi); (try clear ho0)))
          go_ret2
          exact ⟨_, by first | rfl | (simp [errW_none, errW_some] <;> rfl) | (simp [*, errW_none, errW_some] <;> rfl), Kd.V_mono (Kd.R_V (by (with_reducible repeat (first | apply Kd.R_alloc | apply Kd.R_drewN | apply Kd.R_drew)); exact Kd.R_mono HO633.out (fun _ hk => hk.1))) (fun k_ hk => by first | exact ⟨(.inr (hk.1)), hk.2⟩ | exact (.inr (hk))), bW⟩
      · rw [if_neg c6] at H
        exact absurd H (by simp)
    · rw [if_neg c5] at H
      exact absurd H (by simp)
end Go.Proofs.Ytkmjmgkpcomldaa.Q
end

section
namespace Go.Proofs.Ytkmjmgkpcomldaa.Q
open Go.RowKit Go.Proofs.YtkmjmgkpcomldaaW.PrintWords Go.Proofs.YtkmjmgkpcomldaaW.PrintLast Go.Proofs.YtkmjmgkpcomldaaW.PrintMore
attribute [local go_sem] max2_int min2_int max_two min_two max_three min_three max_four min_four   -- for this text's walks alone
set_option linter.unusedVariables false
set_option linter.unusedSimpArgs false
attribute [local go_sem] bin_leq bin_gtr bin_geq
def spec_DeleteRef.j0 : Nat → List (S79) → ByteArray → Bool → Option ((List (S79)) × Int)
  | 0, _, _, _ => none
  | k + 1, x0, x1, x16 => if x16 = true then (some ((([] : List (S79))), 2)) else ((spec_l04Ask.f k x0 x1).bind fun t637 => (if t637 = 0 then ((spec_l04Delete.f k x0 x1).bind fun bt638 => ((some (([] : List (S79)) : List (S79))).bind fun y642 => (if y642.length + bt638.1.length < 3518437208883 then (some ((y642 ++ bt638.1), bt638.2)) else (none)))) else (some ((([] : List (S79))), t637))))
def spec_DeleteRef.f (k : Nat) (l0 : List (S79)) (a1 : ByteArray) : Option ((List (S79)) × Int) := if (l0.length : Int) > 4096 then (spec_DeleteRef.j0 k l0 a1 true) else (spec_DeleteRef.j0 k l0 a1 (decide ((a1.size : Int) > 65536)))
set_option maxHeartbeats 8000000 in
set_option maxRecDepth 100000 in
theorem spec_DeleteRef.calls (k : Nat) (A0 : Option Addr) (c0 : Nat) (l0 : List (S79)) (a1 : ByteArray) (r1 : List (S79)) (r2 : Int) (w : World) (hr0 : Kd.C k79 w A0 l0.length l0) (hc0 : l0.length ≤ c0) (h : spec_DeleteRef.f k l0 a1 = some (r1, r2)) :
    Calls Try.prog 32 #[.slice A0 l0.length c0, .string a1] w fun e w' => ∃ v0_ : Value, e = .returned (.tuple #[v0_, .int .i64 r2]) ∧ Kd.R k79 79 w' w.heap.size (fun _ => True) v0_ r1 ∧ Below w.heap.size w w' := by
  have HR0 := Aside0.mk hr0
  have HC0 := Aside0.mk hc0
  clear hr0 hc0
  have HB := Aside0.mk (Below.refl w.heap.size w)
  have H : (if (l0.length : Int) > 4096 then (spec_DeleteRef.j0 k l0 a1 true) else (spec_DeleteRef.j0 k l0 a1 (decide ((a1.size : Int) > 65536)))) = some (r1, r2) := h
  clear h
  have HC3 := Aside0.mk H
  clear H
  go_enter Try.func32, Try.ntmps32
  go_upto_region 1 with (fail)
  go_cut [16] (fun v16 wc => ∃ (kq : Nat) (x16_2 : Bool), v16 = .bool x16_2 ∧ Aside0 (spec_DeleteRef.j0 kq l0 a1 x16_2 = some (r1, r2)) ∧ Aside0 (kq ≤ k) ∧ Aside0 (Below w.heap.size w wc))
  case first =>
    have H := HC3.out
    clear HC3
    by_cases c4 : (l0.length : Int) > 4096
    · rw [if_pos c4] at H
      have c4b0 : decide (4096 < (l0.length : Int)) = true := decide_eq_true c4
      have c4b1 : decide (4096 < l0.length) = true := decide_eq_true (by omega)
      clear c4
      (first | rw [c4b0] | (simp only [i64_w, i32_w]; rw [c4b0]) | skip)
      have H' := Aside0.mk H
      clear H
      go_wp2
      go_meet
      case rel => exact ⟨_, (true), vE, H', ⟨by first | omega | exact Nat.le_refl _⟩, ⟨bW⟩⟩
    · rw [if_neg c4] at H
      have c4b0 : decide (4096 < (l0.length : Int)) = false := decide_eq_false c4
      have c4b1 : decide (4096 < l0.length) = false := decide_eq_false (by omega)
      clear c4
      (first | rw [c4b0] | (simp only [i64_w, i32_w]; rw [c4b0]) | skip)
      have H' := Aside0.mk H
      clear H
      go_wp2
      go_meet
      case rel => exact ⟨_, (decide ((a1.size : Int) > 65536)), vE, H', ⟨by first | omega | exact Nat.le_refl _⟩, ⟨bW⟩⟩
  case rest =>
    clear HC3
    try clear p2
    try clear c3
    try clear c4
    try clear c4b0
    try clear c4b1
    obtain ⟨kq, x16_2, rfl, HA, HJ2, HB⟩ := hcut
    cases kq with
    | zero => exact absurd HA.out (by simp [spec_DeleteRef.j0])
    | succ kj2 =>
      have H := HA.out
      clear HA
      simp only [spec_DeleteRef.j0] at H
      by_cases c5 : x16_2 = true
      · subst c5
        have H1 : (some ((([] : List (S79))), 2)) = some (r1, r2) := by rw [if_pos rfl] at H; exact H
        clear H
        have H := H1
        clear H1
        obtain ⟨y634, hy634⟩ : ∃ y_ : List (S79), y_ = (([] : List (S79))) := ⟨_, rfl⟩
        replace H : (some (y634, 2)) = some (r1, r2) := by first | (rw [hy634]; with_reducible exact H) | (have H2_ := (Option.bind_some _ _).symm.trans H; rw [hy634]; with_reducible exact H2_) | (have H2_ := (Option.bind_some _ _).symm.trans H; with_reducible exact H2_) | with_reducible exact H | (rw [hy634]; exact H) | exact H
        have Ny634 := Aside0.mk hy634
        clear hy634
        simp only [Option.some.injEq, Prod.mk.injEq] at H
        obtain ⟨rfl, rfl⟩ := H
        go_wp2_with (first | ((with_reducible refine gate_dst (N := 17) rfl ?_); (try (refine gate_guard (by rfl) ?_; dsimp only)); refine Kd.R_lit k79 _ 79 ?hg (N := 17) ?hd (xs := ([] : List (S79))) (inner := []) (ok := fun _ => True) (okp := fun _ => True) ?hr ?hp (fun _ hk => hk) trivial (Below.refl _ _) (Nat.le_refl _) (by simp) ?_; (case hd => rfl); (case hg => rfl); (case hr => first | (go_simp; done) | (go_simp; rfl)); (case hp => exact (Reps.none _ _)); intro v635 w6 ho7 hb hg_ hnew_; clear hg_ hnew_; (first | rw [← Ny634.out] at ho7 | (simp only [Int.reduceToNat] at ho7; rw [← Ny634.out] at ho7)); have n0_ := Aside0.mk (Kd.R_lower ho7 (below_size (w := w) bW)); have n1_ := Aside0.mk (below_step (w := w) bW hb); clear HB; have HO636 := n0_; have HB := n1_; clear n0_ n1_; clear hb ho7))
        go_ret2
        exact ⟨_, by first | rfl | (simp [errW_none, errW_some] <;> rfl) | (simp [*, errW_none, errW_some] <;> rfl), by (with_reducible repeat (first | apply Kd.R_alloc | apply Kd.R_drewN | apply Kd.R_drew)); exact HO636.out, bW⟩
      · replace c5 := Bool.eq_false_iff.mpr c5
        subst c5
        have H1 : ((spec_l04Ask.f kj2 l0 a1).bind fun t637 => (if t637 = 0 then ((spec_l04Delete.f kj2 l0 a1).bind fun bt638 => ((some (([] : List (S79)) : List (S79))).bind fun y642 => (if y642.length + bt638.1.length < 3518437208883 then (some ((y642 ++ bt638.1), bt638.2)) else (none)))) else (some ((([] : List (S79))), t637)))) = some (r1, r2) := by rw [if_neg (show ¬ (false = true) by decide)] at H; exact H
        clear H
        have H := H1
        clear H1
        replace H := Option.bind_eq_some_iff.mp H
        obtain ⟨t637, A80, H⟩ := H
        replace H : (if t637 = 0 then ((spec_l04Delete.f kj2 l0 a1).bind fun bt638 => ((some (([] : List (S79)) : List (S79))).bind fun y642 => (if y642.length + bt638.1.length < 3518437208883 then (some ((y642 ++ bt638.1), bt638.2)) else (none)))) else (some ((([] : List (S79))), t637))) = some (r1, r2) := H
        have A8 := Aside0.mk A80
        clear A80
        by_cases c9 : t637 = 0
        · rw [if_pos c9] at H
          have c9b0 : (t637 == 0) = true := beq_iff_eq.mpr c9
          have c9b1 : (t637 != 0) = false := bne_eq_false_iff_eq.mpr c9
          clear c9
          replace H := Option.bind_eq_some_iff.mp H
          obtain ⟨⟨t638, t641⟩, A100, H⟩ := H
          replace H : ((some (([] : List (S79)) : List (S79))).bind fun y642 => (if y642.length + t638.length < 3518437208883 then (some ((y642 ++ t638), t641)) else (none))) = some (r1, r2) := H
          have A10 := Aside0.mk A100
          clear A100
          obtain ⟨y642, hy642⟩ : ∃ y_ : List (S79), y_ = (([] : List (S79))) := ⟨_, rfl⟩
          replace H : (if y642.length + t638.length < 3518437208883 then (some ((y642 ++ t638), t641)) else (none)) = some (r1, r2) := by first | (rw [hy642]; with_reducible exact H) | (have H2_ := (Option.bind_some _ _).symm.trans H; rw [hy642]; with_reducible exact H2_) | (have H2_ := (Option.bind_some _ _).symm.trans H; with_reducible exact H2_) | with_reducible exact H | (rw [hy642]; exact H) | exact H
          have Ny642 := Aside0.mk hy642
          clear hy642
          by_cases c11 : y642.length + t638.length < 3518437208883
          · rw [if_pos c11] at H
            have LMc11 := Aside0.mk c11
            clear c11
            obtain ⟨y645, hy645⟩ : ∃ y_ : List (S79), y_ = (y642 ++ t638) := ⟨_, rfl⟩
            replace H : (some (y645, t641)) = some (r1, r2) := by first | (rw [hy645]; with_reducible exact H) | (have H2_ := (Option.bind_some _ _).symm.trans H; rw [hy645]; with_reducible exact H2_) | (have H2_ := (Option.bind_some _ _).symm.trans H; with_reducible exact H2_) | with_reducible exact H | (rw [hy645]; exact H) | exact H
            have Ny645 := Aside0.mk hy645
            clear hy645
            simp only [Option.some.injEq, Prod.mk.injEq] at H
            obtain ⟨rfl, rfl⟩ := H
            go_wp2_with (first | ((with_reducible refine gate_callee (f := 60) rfl ?_); refine goesL_ (some 20) rfl rfl Try.func60 (by kernel_rfl) rfl #[.slice A0 l0.length c0, .string a1] rfl gA ?_; (with_reducible refine (spec_l04Ask.calls kj2 _ _ l0 a1 t637 _ ?side1 ?side2 A8.out).mono ?_); (case side1 => exact cB HR0); (case side2 => exact HC0.out); rintro e w12 ⟨rfl, hb⟩; refine ⟨_, rfl, ?_⟩; have n0_ := Aside0.mk (below_step (w := w) bW hb); clear HB; have HB := n0_; clear n0_; (try clear hb); (try clear hb2); (try clear hk); (try clear hi)) | ((with_reducible refine gate_callee (f := 73) rfl ?_); refine goesL_ (some 28) rfl rfl Try.func73 (by kernel_rfl) rfl #[.slice A0 l0.length c0, .string a1] rfl gA ?_; (with_reducible refine (spec_l04Delete.calls kj2 (fun k_ => k_ < w.heap.size) _ _ l0 a1 t638 t641 _ ?side1 A10.out).mono ?_); (case side1 => exact Kd.V_mk HC0.out (Kd.F_below (Kd.C_F k79_heap HR0.out) bW)); rintro e w13 ⟨v639, rfl, ho0, hb⟩; refine ⟨_, rfl, ?_⟩; have n0_ := Aside0.mk (Kd.V_lower (Kd.V_mono (ok' := fun k_ => True) ho0 (fun k_ hk_ => trivial)) (below_size (w := w) bW)); have n1_ := Aside0.mk (below_step (w := w) bW hb); clear HB; have HO640 := n0_; have HB := n1_; clear n0_ n1_; (try clear hb); (try clear hb2); (try clear hk); (try clear hi); (try clear ho0)) | ((with_reducible refine gate_dst (N := 31) rfl ?_); (try (refine gate_guard (by rfl) ?_; dsimp only)); refine Kd.R_lit k79 _ 79 ?hg (N := 31) ?hd (xs := ([] : List (S79))) (inner := []) (ok := fun _ => True) (okp := fun _ => True) ?hr ?hp (fun _ hk => hk) trivial (Below.refl _ _) (Nat.le_refl _) (by simp) ?_; (case hd => rfl); (case hg => rfl); (case hr => first | (go_simp; done) | (go_simp; rfl)); (case hp => exact (Reps.none _ _)); intro v643 w14 ho15 hb hg_ hnew_; clear hg_ hnew_; (first | rw [← Ny642.out] at ho15 | (simp only [Int.reduceToNat] at ho15; rw [← Ny642.out] at ho15)); have n0_ := Aside0.mk (Kd.V_elder' (by (with_reducible repeat (first | apply Kd.V_alloc | apply Kd.V_drewN | apply Kd.V_drew)); exact HO640.out) (Kd.R_base ho15) hb); have n1_ := Aside0.mk (Kd.R_lower ho15 (below_size (w := w) bW)); have n2_ := Aside0.mk (below_step (w := w) bW hb); clear HO640; clear HB; have HO640 := n0_; have HO644 := n1_; have HB := n2_; clear n0_ n1_ n2_; clear hb ho15; obtain ⟨Ao17, co17, eo17⟩ := Kd.V_slice HO640.out; subst eo17) | ((with_reducible refine gate_builtin (b := .append) (xs := #[.tmp 31, .tmp 32]) rfl ?_); (try (refine gate_guard (by rfl) ?_; dsimp only)); at_builtin; refine Kd.R_append_rows k79 (w0 := w) w.heap.size rfl (.tmp 31) (.tmp 32) 39 79 (.agg #[(.string ⟨#[]⟩), (.int .i64 0), (.int .i64 0), (.bool false)]) 40 rfl Try.underlying39 info79 rfl (by decide) (by omega) v643 y642 t638 _ _ _ (fun _ => True) (fun _ => False) rfl rfl ?aO ?aR (fun _ _ h => h) (fun _ h => h.elim) ?aF ?aB ?aS ?aL ?_; (case aR => repeat (first | exact (Kd.V_reads' HO640.out).2.2 | (with_reducible refine Kd.C_alloc ?_ _) | (with_reducible refine Kd.C_drewN ?_ _) | (with_reducible refine Kd.C_drew ?_))); (case aB => exact bW); (case aF => exact (fun _ _ => trivial)); (case aO => exact (pR HO644)); (case aS => exact (below_size (w := w) bW)); (case aL => have := LMc11.out; omega); intro v646 w16 ho hb hg hat; rw [← Ny645.out] at ho; have n0_ := Aside0.mk (Kd.V_afterv (ok := (fun _ => True)) (by (with_reducible repeat (first | apply Kd.V_alloc | apply Kd.V_drewN | apply Kd.V_drew)); exact HO640.out) hg hat); have n1_ := Aside0.mk (hb); have n2_ := Aside0.mk (ho); clear HO640; clear HB; clear HO644; have HO640 := n0_; have HB := n1_; have HO647 := n2_; clear n0_ n1_ n2_; clear ho hb hg hat))
            go_ret2
            exact ⟨_, by first | rfl | (simp [errW_none, errW_some] <;> rfl) | (simp [*, errW_none, errW_some] <;> rfl), by (with_reducible repeat (first | apply Kd.R_alloc | apply Kd.R_drewN | apply Kd.R_drew)); exact HO647.out, bW⟩
          · rw [if_neg c11] at H
            exact absurd H (by simp)
        · rw [if_neg c9] at H
          have c9b0 : (t637 == 0) = false := beq_eq_false_iff_ne.mpr c9
          have c9b1 : (t637 != 0) = true := bne_iff_ne.mpr c9
          obtain ⟨y648, hy648⟩ : ∃ y_ : List (S79), y_ = (([] : List (S79))) := ⟨_, rfl⟩
          replace H : (some (y648, t637)) = some (r1, r2) := by first | (rw [hy648]; with_reducible exact H) | (have H2_ := (Option.bind_some _ _).symm.trans H; rw [hy648]; with_reducible exact H2_) | (have H2_ := (Option.bind_some _ _).symm.trans H; with_reducible exact H2_) | with_reducible exact H | (rw [hy648]; exact H) | exact H
          have Ny648 := Aside0.mk hy648
          clear hy648
          simp only [Option.some.injEq, Prod.mk.injEq] at H
          obtain ⟨rfl, rfl⟩ := H
          go_wp2_with (first | ((with_reducible refine gate_callee (f := 60) rfl ?_); refine goesL_ (some 20) rfl rfl Try.func60 (by kernel_rfl) rfl #[.slice A0 l0.length c0, .string a1] rfl gA ?_; (with_reducible refine (spec_l04Ask.calls kj2 _ _ l0 a1 t637 _ ?side1 ?side2 A8.out).mono ?_); (case side1 => exact cB HR0); (case side2 => exact HC0.out); rintro e w18 ⟨rfl, hb⟩; refine ⟨_, rfl, ?_⟩; have n0_ := Aside0.mk (below_step (w := w) bW hb); clear HB; have HB := n0_; clear n0_; (try clear hb); (try clear hb2); (try clear hk); (try clear hi)) | ((with_reducible refine gate_dst (N := 23) rfl ?_); (try (refine gate_guard (by rfl) ?_; dsimp only)); refine Kd.R_lit k79 _ 79 ?hg (N := 23) ?hd (xs := ([] : List (S79))) (inner := []) (ok := fun _ => True) (okp := fun _ => True) ?hr ?hp (fun _ hk => hk) trivial (Below.refl _ _) (Nat.le_refl _) (by simp) ?_; (case hd => rfl); (case hg => rfl); (case hr => first | (go_simp; done) | (go_simp; rfl)); (case hp => exact (Reps.none _ _)); intro v649 w19 ho20 hb hg_ hnew_; clear hg_ hnew_; (first | rw [← Ny648.out] at ho20 | (simp only [Int.reduceToNat] at ho20; rw [← Ny648.out] at ho20)); have n0_ := Aside0.mk (Kd.R_lower ho20 (below_size (w := w) bW)); have n1_ := Aside0.mk (below_step (w := w) bW hb); clear HB; have HO650 := n0_; have HB := n1_; clear n0_ n1_; clear hb ho20))
          go_ret2
          exact ⟨_, by first | rfl | (simp [errW_none, errW_some] <;> rfl) | (simp [*, errW_none, errW_some] <;> rfl), by (with_reducible repeat (first | apply Kd.R_alloc | apply Kd.R_drewN | apply Kd.R_drew)); exact HO650.out, bW⟩
end Go.Proofs.Ytkmjmgkpcomldaa.Q
end

section
namespace Go.Proofs.Ytkmjmgkpcomldaa.Q
open Go.RowKit Go.Proofs.YtkmjmgkpcomldaaW.PrintWords Go.Proofs.YtkmjmgkpcomldaaW.PrintLast Go.Proofs.YtkmjmgkpcomldaaW.PrintMore
attribute [local go_sem] max2_int min2_int max_two min_two max_three min_three max_four min_four   -- for this text's walks alone
set_option linter.unusedVariables false
set_option linter.unusedSimpArgs false
attribute [local go_sem] bin_leq bin_gtr bin_geq
mutual
def laws_FnRefs.j0 : Nat → List Int → List Int → Bool → Option (Bool)
  | 0, _, _, _ => none
  | k + 1, x0, x1, x49 => if x49 = true then (some true) else ((spec_RefsDrawn.f k x0).bind fun t651 => ((spec_BranchDrawn.f x1).bind fun t654 => ((laws_at.f x1 0 9).bind fun t655 => ((impl_LoadRef.f k t651 t654).bind fun bt656 => ((spec_LoadRef.f k t651 t654).bind fun bt659 => ((impl_LiveRefs.f k t651).bind fun bt662 => ((spec_LiveRefs.f k t651).bind fun bt666 => ((impl_CreateRef.f k t651 t654 (wrap64 (1 + t655))).bind fun bt670 => ((spec_CreateRef.f k t651 t654 (wrap64 (1 + t655))).bind fun bt674 => (if bt656.2.2 = bt659.2.2 then (if bt656.1 = bt659.1 then (if bt656.2.1 = bt659.2.1 then (if bt662.2 = 0 then ((laws_sameTexts.f k bt662.1 bt666.1).bind fun t678 => (if t678 = true then (if bt670.2 = bt674.2 then ((laws_sameRefs.f k bt670.1 bt674.1).bind fun t679 => (if t679 = true then ((impl_RefsOK.f k t651).bind fun t680 => (if t680 = true then (laws_FnRefs.j1 k t651 t654 (wrap64 (1 + t655)) bt656.2.1 bt659.1 bt659.2.1 bt659.2.2 ((bt674.2 == 14) != (bt659.2.2 == 0))) else (laws_FnRefs.j1 k t651 t654 (wrap64 (1 + t655)) bt656.2.1 bt659.1 bt659.2.1 bt659.2.2 true))) else (laws_FnRefs.j1 k t651 t654 (wrap64 (1 + t655)) bt656.2.1 bt659.1 bt659.2.1 bt659.2.2 true))) else (laws_FnRefs.j1 k t651 t654 (wrap64 (1 + t655)) bt656.2.1 bt659.1 bt659.2.1 bt659.2.2 true)) else (laws_FnRefs.j1 k t651 t654 (wrap64 (1 + t655)) bt656.2.1 bt659.1 bt659.2.1 bt659.2.2 true))) else (laws_FnRefs.j1 k t651 t654 (wrap64 (1 + t655)) bt656.2.1 bt659.1 bt659.2.1 bt659.2.2 true)) else (laws_FnRefs.j1 k t651 t654 (wrap64 (1 + t655)) bt656.2.1 bt659.1 bt659.2.1 bt659.2.2 true)) else (laws_FnRefs.j1 k t651 t654 (wrap64 (1 + t655)) bt656.2.1 bt659.1 bt659.2.1 bt659.2.2 true)) else (laws_FnRefs.j1 k t651 t654 (wrap64 (1 + t655)) bt656.2.1 bt659.1 bt659.2.1 bt659.2.2 true)))))))))))
def laws_FnRefs.j1 : Nat → List (S79) → ByteArray → Int → Int → Int → Int → Int → Bool → Option (Bool)
  | 0, _, _, _, _, _, _, _, _ => none
  | k + 1, x5, x6, x7, x9, x11, x12, x13, x140 => if x140 = true then (some false) else (if x13 = 0 then ((impl_SwapRef.f k x5 x6 x9 x7).bind fun bt681 => ((spec_SwapRef.f k x5 x6 x9 x7).bind fun bt685 => ((impl_SwapRef.f k bt681.1 x6 x9 x7).bind fun bt689 => ((impl_DeleteRef.f k x5 x6).bind fun bt693 => ((spec_DeleteRef.f k x5 x6).bind fun bt697 => ((impl_CreateRef.f k bt693.1 x6 x11).bind fun bt701 => ((impl_SwapRef.f k bt701.1 x6 x9 x7).bind fun bt705 => ((impl_LoadRef.f k bt681.1 x6).bind fun bt709 => ((impl_LoadRef.f k bt693.1 x6).bind fun bt712 => (if bt681.2 = bt685.2 then (if bt685.2 = 0 then ((laws_sameRefs.f k bt681.1 bt685.1).bind fun t715 => (if t715 = true then (if bt689.2 = 13 then (if bt693.2 = bt697.2 then (if bt697.2 = 0 then ((laws_sameRefs.f k bt693.1 bt697.1).bind fun t716 => (if t716 = true then (if bt701.2 = 0 then (if bt705.2 = 13 then (if bt709.2.2 = 0 then (if bt709.1 = x7 then (if bt709.2.1 = (wrap64 (x12 + 1)) then (if bt712.2.2 = 10 then (some (bt712.2.1 == 0)) else (some false)) else (some false)) else (some false)) else (some false)) else (some false)) else (some false)) else (some false))) else (some false)) else (some false)) else (some false)) else (some false))) else (some false)) else (some false))))))))))) else (some true))
end
def laws_FnRefs.f (k : Nat) (l0 : List Int) (l1 : List Int) : Option (Bool) := if (l0.length : Int) > 1048576 then (laws_FnRefs.j0 k l0 l1 true) else (laws_FnRefs.j0 k l0 l1 (decide ((l1.length : Int) > 1048576)))
set_option maxHeartbeats 8000000 in
set_option maxRecDepth 100000 in
theorem laws_FnRefs.calls (k : Nat) (A0 : Option Addr) (c0 : Nat) (l0 : List Int) (A1 : Option Addr) (c1 : Nat) (l1 : List Int) (w : World) (hr0 : Kd.C (Kd.int .u8) w A0 l0.length l0) (hc0 : l0.length ≤ c0) (hr1 : Kd.C (Kd.int .u8) w A1 l1.length l1) (hc1 : l1.length ≤ c1) (h : laws_FnRefs.f k l0 l1 = some true) :
    Calls Try.prog 4 #[.slice A0 l0.length c0, .slice A1 l1.length c1] w fun e w' => e = .returned (.bool true) ∧ Below w.heap.size w w' := by
  have HR0 := Aside0.mk hr0
  have HC0 := Aside0.mk hc0
  clear hr0 hc0
  have HR1 := Aside0.mk hr1
  have HC1 := Aside0.mk hc1
  clear hr1 hc1
  have HB := Aside0.mk (Below.refl w.heap.size w)
  have H : (if (l0.length : Int) > 1048576 then (laws_FnRefs.j0 k l0 l1 true) else (laws_FnRefs.j0 k l0 l1 (decide ((l1.length : Int) > 1048576)))) = some true := h
  clear h
  have HC3 := Aside0.mk H
  clear H
  go_enter Try.func4, Try.ntmps4
  go_upto_region 1 with (fail)
  go_cut [49] (fun v49 wc => ∃ (kq : Nat) (x49_2 : Bool), v49 = .bool x49_2 ∧ Aside0 (laws_FnRefs.j0 kq l0 l1 x49_2 = some true) ∧ Aside0 (kq ≤ k) ∧ Aside0 (Below w.heap.size w wc))
  case first =>
    as_aux_lemma =>
      have H := HC3.out
      clear HC3
      by_cases c4 : (l0.length : Int) > 1048576
      · rw [if_pos c4] at H
        have c4b0 : decide (1048576 < (l0.length : Int)) = true := decide_eq_true c4
        have c4b1 : decide (1048576 < l0.length) = true := decide_eq_true (by omega)
        clear c4
        (first | rw [c4b0] | (simp only [i64_w, i32_w]; rw [c4b0]) | skip)
        have H' := Aside0.mk H
        clear H
        go_wp2
        go_meet
        case rel => exact ⟨_, (true), vE, H', ⟨by first | omega | exact Nat.le_refl _⟩, ⟨bW⟩⟩
      · rw [if_neg c4] at H
        have c4b0 : decide (1048576 < (l0.length : Int)) = false := decide_eq_false c4
        have c4b1 : decide (1048576 < l0.length) = false := decide_eq_false (by omega)
        clear c4
        (first | rw [c4b0] | (simp only [i64_w, i32_w]; rw [c4b0]) | skip)
        have H' := Aside0.mk H
        clear H
        go_wp2
        go_meet
        case rel => exact ⟨_, (decide ((l1.length : Int) > 1048576)), vE, H', ⟨by first | omega | exact Nat.le_refl _⟩, ⟨bW⟩⟩
  case rest =>
    as_aux_lemma =>
      clear HC3
      try clear c1
      try clear p2
      try clear c4
      try clear c4b0
      try clear c4b1
      obtain ⟨kq, x49_2, rfl, HA, HJ2, HB⟩ := hcut
      cases kq with
      | zero => exact absurd HA.out (by simp [laws_FnRefs.j0])
      | succ kj2 =>
        have H := HA.out
        clear HA
        simp only [laws_FnRefs.j0] at H
        by_cases c5 : x49_2 = true
        · subst c5
          have H1 : (some true) = some true := rfl
          clear H
          have H := H1
          clear H1
          clear H
          go_wp2
          go_ret
          exact ⟨rE, bW⟩
        · replace c5 := Bool.eq_false_iff.mpr c5
          subst c5
          have H1 : ((spec_RefsDrawn.f kj2 l0).bind fun t651 => ((spec_BranchDrawn.f l1).bind fun t654 => ((laws_at.f l1 0 9).bind fun t655 => ((impl_LoadRef.f kj2 t651 t654).bind fun bt656 => ((spec_LoadRef.f kj2 t651 t654).bind fun bt659 => ((impl_LiveRefs.f kj2 t651).bind fun bt662 => ((spec_LiveRefs.f kj2 t651).bind fun bt666 => ((impl_CreateRef.f kj2 t651 t654 (wrap64 (1 + t655))).bind fun bt670 => ((spec_CreateRef.f kj2 t651 t654 (wrap64 (1 + t655))).bind fun bt674 => (if bt656.2.2 = bt659.2.2 then (if bt656.1 = bt659.1 then (if bt656.2.1 = bt659.2.1 then (if bt662.2 = 0 then ((laws_sameTexts.f kj2 bt662.1 bt666.1).bind fun t678 => (if t678 = true then (if bt670.2 = bt674.2 then ((laws_sameRefs.f kj2 bt670.1 bt674.1).bind fun t679 => (if t679 = true then ((impl_RefsOK.f kj2 t651).bind fun t680 => (if t680 = true then (laws_FnRefs.j1 kj2 t651 t654 (wrap64 (1 + t655)) bt656.2.1 bt659.1 bt659.2.1 bt659.2.2 ((bt674.2 == 14) != (bt659.2.2 == 0))) else (laws_FnRefs.j1 kj2 t651 t654 (wrap64 (1 + t655)) bt656.2.1 bt659.1 bt659.2.1 bt659.2.2 true))) else (laws_FnRefs.j1 kj2 t651 t654 (wrap64 (1 + t655)) bt656.2.1 bt659.1 bt659.2.1 bt659.2.2 true))) else (laws_FnRefs.j1 kj2 t651 t654 (wrap64 (1 + t655)) bt656.2.1 bt659.1 bt659.2.1 bt659.2.2 true)) else (laws_FnRefs.j1 kj2 t651 t654 (wrap64 (1 + t655)) bt656.2.1 bt659.1 bt659.2.1 bt659.2.2 true))) else (laws_FnRefs.j1 kj2 t651 t654 (wrap64 (1 + t655)) bt656.2.1 bt659.1 bt659.2.1 bt659.2.2 true)) else (laws_FnRefs.j1 kj2 t651 t654 (wrap64 (1 + t655)) bt656.2.1 bt659.1 bt659.2.1 bt659.2.2 true)) else (laws_FnRefs.j1 kj2 t651 t654 (wrap64 (1 + t655)) bt656.2.1 bt659.1 bt659.2.1 bt659.2.2 true)) else (laws_FnRefs.j1 kj2 t651 t654 (wrap64 (1 + t655)) bt656.2.1 bt659.1 bt659.2.1 bt659.2.2 true))))))))))) = some true := by rw [if_neg (show ¬ (false = true) by decide)] at H; exact H
          clear H
          have H := H1
          clear H1
          replace H := Option.bind_eq_some_iff.mp H
          obtain ⟨t651, A60, H⟩ := H
          replace H : ((spec_BranchDrawn.f l1).bind fun t654 => ((laws_at.f l1 0 9).bind fun t655 => ((impl_LoadRef.f kj2 t651 t654).bind fun bt656 => ((spec_LoadRef.f kj2 t651 t654).bind fun bt659 => ((impl_LiveRefs.f kj2 t651).bind fun bt662 => ((spec_LiveRefs.f kj2 t651).bind fun bt666 => ((impl_CreateRef.f kj2 t651 t654 (wrap64 (1 + t655))).bind fun bt670 => ((spec_CreateRef.f kj2 t651 t654 (wrap64 (1 + t655))).bind fun bt674 => (if bt656.2.2 = bt659.2.2 then (if bt656.1 = bt659.1 then (if bt656.2.1 = bt659.2.1 then (if bt662.2 = 0 then ((laws_sameTexts.f kj2 bt662.1 bt666.1).bind fun t678 => (if t678 = true then (if bt670.2 = bt674.2 then ((laws_sameRefs.f kj2 bt670.1 bt674.1).bind fun t679 => (if t679 = true then ((impl_RefsOK.f kj2 t651).bind fun t680 => (if t680 = true then (laws_FnRefs.j1 kj2 t651 t654 (wrap64 (1 + t655)) bt656.2.1 bt659.1 bt659.2.1 bt659.2.2 ((bt674.2 == 14) != (bt659.2.2 == 0))) else (laws_FnRefs.j1 kj2 t651 t654 (wrap64 (1 + t655)) bt656.2.1 bt659.1 bt659.2.1 bt659.2.2 true))) else (laws_FnRefs.j1 kj2 t651 t654 (wrap64 (1 + t655)) bt656.2.1 bt659.1 bt659.2.1 bt659.2.2 true))) else (laws_FnRefs.j1 kj2 t651 t654 (wrap64 (1 + t655)) bt656.2.1 bt659.1 bt659.2.1 bt659.2.2 true)) else (laws_FnRefs.j1 kj2 t651 t654 (wrap64 (1 + t655)) bt656.2.1 bt659.1 bt659.2.1 bt659.2.2 true))) else (laws_FnRefs.j1 kj2 t651 t654 (wrap64 (1 + t655)) bt656.2.1 bt659.1 bt659.2.1 bt659.2.2 true)) else (laws_FnRefs.j1 kj2 t651 t654 (wrap64 (1 + t655)) bt656.2.1 bt659.1 bt659.2.1 bt659.2.2 true)) else (laws_FnRefs.j1 kj2 t651 t654 (wrap64 (1 + t655)) bt656.2.1 bt659.1 bt659.2.1 bt659.2.2 true)) else (laws_FnRefs.j1 kj2 t651 t654 (wrap64 (1 + t655)) bt656.2.1 bt659.1 bt659.2.1 bt659.2.2 true)))))))))) = some true := H
          have A6 := Aside0.mk A60
          clear A60
          replace H := Option.bind_eq_some_iff.mp H
          obtain ⟨t654, A70, H⟩ := H
          replace H : ((laws_at.f l1 0 9).bind fun t655 => ((impl_LoadRef.f kj2 t651 t654).bind fun bt656 => ((spec_LoadRef.f kj2 t651 t654).bind fun bt659 => ((impl_LiveRefs.f kj2 t651).bind fun bt662 => ((spec_LiveRefs.f kj2 t651).bind fun bt666 => ((impl_CreateRef.f kj2 t651 t654 (wrap64 (1 + t655))).bind fun bt670 => ((spec_CreateRef.f kj2 t651 t654 (wrap64 (1 + t655))).bind fun bt674 => (if bt656.2.2 = bt659.2.2 then (if bt656.1 = bt659.1 then (if bt656.2.1 = bt659.2.1 then (if bt662.2 = 0 then ((laws_sameTexts.f kj2 bt662.1 bt666.1).bind fun t678 => (if t678 = true then (if bt670.2 = bt674.2 then ((laws_sameRefs.f kj2 bt670.1 bt674.1).bind fun t679 => (if t679 = true then ((impl_RefsOK.f kj2 t651).bind fun t680 => (if t680 = true then (laws_FnRefs.j1 kj2 t651 t654 (wrap64 (1 + t655)) bt656.2.1 bt659.1 bt659.2.1 bt659.2.2 ((bt674.2 == 14) != (bt659.2.2 == 0))) else (laws_FnRefs.j1 kj2 t651 t654 (wrap64 (1 + t655)) bt656.2.1 bt659.1 bt659.2.1 bt659.2.2 true))) else (laws_FnRefs.j1 kj2 t651 t654 (wrap64 (1 + t655)) bt656.2.1 bt659.1 bt659.2.1 bt659.2.2 true))) else (laws_FnRefs.j1 kj2 t651 t654 (wrap64 (1 + t655)) bt656.2.1 bt659.1 bt659.2.1 bt659.2.2 true)) else (laws_FnRefs.j1 kj2 t651 t654 (wrap64 (1 + t655)) bt656.2.1 bt659.1 bt659.2.1 bt659.2.2 true))) else (laws_FnRefs.j1 kj2 t651 t654 (wrap64 (1 + t655)) bt656.2.1 bt659.1 bt659.2.1 bt659.2.2 true)) else (laws_FnRefs.j1 kj2 t651 t654 (wrap64 (1 + t655)) bt656.2.1 bt659.1 bt659.2.1 bt659.2.2 true)) else (laws_FnRefs.j1 kj2 t651 t654 (wrap64 (1 + t655)) bt656.2.1 bt659.1 bt659.2.1 bt659.2.2 true)) else (laws_FnRefs.j1 kj2 t651 t654 (wrap64 (1 + t655)) bt656.2.1 bt659.1 bt659.2.1 bt659.2.2 true))))))))) = some true := H
          have A7 := Aside0.mk A70
          clear A70
          replace H := Option.bind_eq_some_iff.mp H
          obtain ⟨t655, A80, H⟩ := H
          replace H : ((impl_LoadRef.f kj2 t651 t654).bind fun bt656 => ((spec_LoadRef.f kj2 t651 t654).bind fun bt659 => ((impl_LiveRefs.f kj2 t651).bind fun bt662 => ((spec_LiveRefs.f kj2 t651).bind fun bt666 => ((impl_CreateRef.f kj2 t651 t654 (wrap64 (1 + t655))).bind fun bt670 => ((spec_CreateRef.f kj2 t651 t654 (wrap64 (1 + t655))).bind fun bt674 => (if bt656.2.2 = bt659.2.2 then (if bt656.1 = bt659.1 then (if bt656.2.1 = bt659.2.1 then (if bt662.2 = 0 then ((laws_sameTexts.f kj2 bt662.1 bt666.1).bind fun t678 => (if t678 = true then (if bt670.2 = bt674.2 then ((laws_sameRefs.f kj2 bt670.1 bt674.1).bind fun t679 => (if t679 = true then ((impl_RefsOK.f kj2 t651).bind fun t680 => (if t680 = true then (laws_FnRefs.j1 kj2 t651 t654 (wrap64 (1 + t655)) bt656.2.1 bt659.1 bt659.2.1 bt659.2.2 ((bt674.2 == 14) != (bt659.2.2 == 0))) else (laws_FnRefs.j1 kj2 t651 t654 (wrap64 (1 + t655)) bt656.2.1 bt659.1 bt659.2.1 bt659.2.2 true))) else (laws_FnRefs.j1 kj2 t651 t654 (wrap64 (1 + t655)) bt656.2.1 bt659.1 bt659.2.1 bt659.2.2 true))) else (laws_FnRefs.j1 kj2 t651 t654 (wrap64 (1 + t655)) bt656.2.1 bt659.1 bt659.2.1 bt659.2.2 true)) else (laws_FnRefs.j1 kj2 t651 t654 (wrap64 (1 + t655)) bt656.2.1 bt659.1 bt659.2.1 bt659.2.2 true))) else (laws_FnRefs.j1 kj2 t651 t654 (wrap64 (1 + t655)) bt656.2.1 bt659.1 bt659.2.1 bt659.2.2 true)) else (laws_FnRefs.j1 kj2 t651 t654 (wrap64 (1 + t655)) bt656.2.1 bt659.1 bt659.2.1 bt659.2.2 true)) else (laws_FnRefs.j1 kj2 t651 t654 (wrap64 (1 + t655)) bt656.2.1 bt659.1 bt659.2.1 bt659.2.2 true)) else (laws_FnRefs.j1 kj2 t651 t654 (wrap64 (1 + t655)) bt656.2.1 bt659.1 bt659.2.1 bt659.2.2 true)))))))) = some true := H
          have A8 := Aside0.mk A80
          clear A80
          replace H := Option.bind_eq_some_iff.mp H
          obtain ⟨⟨t656, t657, t658⟩, A90, H⟩ := H
          replace H : ((spec_LoadRef.f kj2 t651 t654).bind fun bt659 => ((impl_LiveRefs.f kj2 t651).bind fun bt662 => ((spec_LiveRefs.f kj2 t651).bind fun bt666 => ((impl_CreateRef.f kj2 t651 t654 (wrap64 (1 + t655))).bind fun bt670 => ((spec_CreateRef.f kj2 t651 t654 (wrap64 (1 + t655))).bind fun bt674 => (if t658 = bt659.2.2 then (if t656 = bt659.1 then (if t657 = bt659.2.1 then (if bt662.2 = 0 then ((laws_sameTexts.f kj2 bt662.1 bt666.1).bind fun t678 => (if t678 = true then (if bt670.2 = bt674.2 then ((laws_sameRefs.f kj2 bt670.1 bt674.1).bind fun t679 => (if t679 = true then ((impl_RefsOK.f kj2 t651).bind fun t680 => (if t680 = true then (laws_FnRefs.j1 kj2 t651 t654 (wrap64 (1 + t655)) t657 bt659.1 bt659.2.1 bt659.2.2 ((bt674.2 == 14) != (bt659.2.2 == 0))) else (laws_FnRefs.j1 kj2 t651 t654 (wrap64 (1 + t655)) t657 bt659.1 bt659.2.1 bt659.2.2 true))) else (laws_FnRefs.j1 kj2 t651 t654 (wrap64 (1 + t655)) t657 bt659.1 bt659.2.1 bt659.2.2 true))) else (laws_FnRefs.j1 kj2 t651 t654 (wrap64 (1 + t655)) t657 bt659.1 bt659.2.1 bt659.2.2 true)) else (laws_FnRefs.j1 kj2 t651 t654 (wrap64 (1 + t655)) t657 bt659.1 bt659.2.1 bt659.2.2 true))) else (laws_FnRefs.j1 kj2 t651 t654 (wrap64 (1 + t655)) t657 bt659.1 bt659.2.1 bt659.2.2 true)) else (laws_FnRefs.j1 kj2 t651 t654 (wrap64 (1 + t655)) t657 bt659.1 bt659.2.1 bt659.2.2 true)) else (laws_FnRefs.j1 kj2 t651 t654 (wrap64 (1 + t655)) t657 bt659.1 bt659.2.1 bt659.2.2 true)) else (laws_FnRefs.j1 kj2 t651 t654 (wrap64 (1 + t655)) t657 bt659.1 bt659.2.1 bt659.2.2 true))))))) = some true := H
          have A9 := Aside0.mk A90
          clear A90
          replace H := Option.bind_eq_some_iff.mp H
          obtain ⟨⟨t659, t660, t661⟩, A100, H⟩ := H
          replace H : ((impl_LiveRefs.f kj2 t651).bind fun bt662 => ((spec_LiveRefs.f kj2 t651).bind fun bt666 => ((impl_CreateRef.f kj2 t651 t654 (wrap64 (1 + t655))).bind fun bt670 => ((spec_CreateRef.f kj2 t651 t654 (wrap64 (1 + t655))).bind fun bt674 => (if t658 = t661 then (if t656 = t659 then (if t657 = t660 then (if bt662.2 = 0 then ((laws_sameTexts.f kj2 bt662.1 bt666.1).bind fun t678 => (if t678 = true then (if bt670.2 = bt674.2 then ((laws_sameRefs.f kj2 bt670.1 bt674.1).bind fun t679 => (if t679 = true then ((impl_RefsOK.f kj2 t651).bind fun t680 => (if t680 = true then (laws_FnRefs.j1 kj2 t651 t654 (wrap64 (1 + t655)) t657 t659 t660 t661 ((bt674.2 == 14) != (t661 == 0))) else (laws_FnRefs.j1 kj2 t651 t654 (wrap64 (1 + t655)) t657 t659 t660 t661 true))) else (laws_FnRefs.j1 kj2 t651 t654 (wrap64 (1 + t655)) t657 t659 t660 t661 true))) else (laws_FnRefs.j1 kj2 t651 t654 (wrap64 (1 + t655)) t657 t659 t660 t661 true)) else (laws_FnRefs.j1 kj2 t651 t654 (wrap64 (1 + t655)) t657 t659 t660 t661 true))) else (laws_FnRefs.j1 kj2 t651 t654 (wrap64 (1 + t655)) t657 t659 t660 t661 true)) else (laws_FnRefs.j1 kj2 t651 t654 (wrap64 (1 + t655)) t657 t659 t660 t661 true)) else (laws_FnRefs.j1 kj2 t651 t654 (wrap64 (1 + t655)) t657 t659 t660 t661 true)) else (laws_FnRefs.j1 kj2 t651 t654 (wrap64 (1 + t655)) t657 t659 t660 t661 true)))))) = some true := H
          have A10 := Aside0.mk A100
          clear A100
          replace H := Option.bind_eq_some_iff.mp H
          obtain ⟨⟨t662, t663⟩, A110, H⟩ := H
          replace H : ((spec_LiveRefs.f kj2 t651).bind fun bt666 => ((impl_CreateRef.f kj2 t651 t654 (wrap64 (1 + t655))).bind fun bt670 => ((spec_CreateRef.f kj2 t651 t654 (wrap64 (1 + t655))).bind fun bt674 => (if t658 = t661 then (if t656 = t659 then (if t657 = t660 then (if t663 = 0 then ((laws_sameTexts.f kj2 t662 bt666.1).bind fun t678 => (if t678 = true then (if bt670.2 = bt674.2 then ((laws_sameRefs.f kj2 bt670.1 bt674.1).bind fun t679 => (if t679 = true then ((impl_RefsOK.f kj2 t651).bind fun t680 => (if t680 = true then (laws_FnRefs.j1 kj2 t651 t654 (wrap64 (1 + t655)) t657 t659 t660 t661 ((bt674.2 == 14) != (t661 == 0))) else (laws_FnRefs.j1 kj2 t651 t654 (wrap64 (1 + t655)) t657 t659 t660 t661 true))) else (laws_FnRefs.j1 kj2 t651 t654 (wrap64 (1 + t655)) t657 t659 t660 t661 true))) else (laws_FnRefs.j1 kj2 t651 t654 (wrap64 (1 + t655)) t657 t659 t660 t661 true)) else (laws_FnRefs.j1 kj2 t651 t654 (wrap64 (1 + t655)) t657 t659 t660 t661 true))) else (laws_FnRefs.j1 kj2 t651 t654 (wrap64 (1 + t655)) t657 t659 t660 t661 true)) else (laws_FnRefs.j1 kj2 t651 t654 (wrap64 (1 + t655)) t657 t659 t660 t661 true)) else (laws_FnRefs.j1 kj2 t651 t654 (wrap64 (1 + t655)) t657 t659 t660 t661 true)) else (laws_FnRefs.j1 kj2 t651 t654 (wrap64 (1 + t655)) t657 t659 t660 t661 true))))) = some true := H
          have A11 := Aside0.mk A110
          clear A110
          replace H := Option.bind_eq_some_iff.mp H
          obtain ⟨⟨t666, t667⟩, A120, H⟩ := H
          replace H : ((impl_CreateRef.f kj2 t651 t654 (wrap64 (1 + t655))).bind fun bt670 => ((spec_CreateRef.f kj2 t651 t654 (wrap64 (1 + t655))).bind fun bt674 => (if t658 = t661 then (if t656 = t659 then (if t657 = t660 then (if t663 = 0 then ((laws_sameTexts.f kj2 t662 t666).bind fun t678 => (if t678 = true then (if bt670.2 = bt674.2 then ((laws_sameRefs.f kj2 bt670.1 bt674.1).bind fun t679 => (if t679 = true then ((impl_RefsOK.f kj2 t651).bind fun t680 => (if t680 = true then (laws_FnRefs.j1 kj2 t651 t654 (wrap64 (1 + t655)) t657 t659 t660 t661 ((bt674.2 == 14) != (t661 == 0))) else (laws_FnRefs.j1 kj2 t651 t654 (wrap64 (1 + t655)) t657 t659 t660 t661 true))) else (laws_FnRefs.j1 kj2 t651 t654 (wrap64 (1 + t655)) t657 t659 t660 t661 true))) else (laws_FnRefs.j1 kj2 t651 t654 (wrap64 (1 + t655)) t657 t659 t660 t661 true)) else (laws_FnRefs.j1 kj2 t651 t654 (wrap64 (1 + t655)) t657 t659 t660 t661 true))) else (laws_FnRefs.j1 kj2 t651 t654 (wrap64 (1 + t655)) t657 t659 t660 t661 true)) else (laws_FnRefs.j1 kj2 t651 t654 (wrap64 (1 + t655)) t657 t659 t660 t661 true)) else (laws_FnRefs.j1 kj2 t651 t654 (wrap64 (1 + t655)) t657 t659 t660 t661 true)) else (laws_FnRefs.j1 kj2 t651 t654 (wrap64 (1 + t655)) t657 t659 t660 t661 true)))) = some true := H
          have A12 := Aside0.mk A120
          clear A120
          replace H := Option.bind_eq_some_iff.mp H
          obtain ⟨⟨t670, t671⟩, A130, H⟩ := H
          replace H : ((spec_CreateRef.f kj2 t651 t654 (wrap64 (1 + t655))).bind fun bt674 => (if t658 = t661 then (if t656 = t659 then (if t657 = t660 then (if t663 = 0 then ((laws_sameTexts.f kj2 t662 t666).bind fun t678 => (if t678 = true then (if t671 = bt674.2 then ((laws_sameRefs.f kj2 t670 bt674.1).bind fun t679 => (if t679 = true then ((impl_RefsOK.f kj2 t651).bind fun t680 => (if t680 = true then (laws_FnRefs.j1 kj2 t651 t654 (wrap64 (1 + t655)) t657 t659 t660 t661 ((bt674.2 == 14) != (t661 == 0))) else (laws_FnRefs.j1 kj2 t651 t654 (wrap64 (1 + t655)) t657 t659 t660 t661 true))) else (laws_FnRefs.j1 kj2 t651 t654 (wrap64 (1 + t655)) t657 t659 t660 t661 true))) else (laws_FnRefs.j1 kj2 t651 t654 (wrap64 (1 + t655)) t657 t659 t660 t661 true)) else (laws_FnRefs.j1 kj2 t651 t654 (wrap64 (1 + t655)) t657 t659 t660 t661 true))) else (laws_FnRefs.j1 kj2 t651 t654 (wrap64 (1 + t655)) t657 t659 t660 t661 true)) else (laws_FnRefs.j1 kj2 t651 t654 (wrap64 (1 + t655)) t657 t659 t660 t661 true)) else (laws_FnRefs.j1 kj2 t651 t654 (wrap64 (1 + t655)) t657 t659 t660 t661 true)) else (laws_FnRefs.j1 kj2 t651 t654 (wrap64 (1 + t655)) t657 t659 t660 t661 true))) = some true := H
          have A13 := Aside0.mk A130
          clear A130
          replace H := Option.bind_eq_some_iff.mp H
          obtain ⟨⟨t674, t675⟩, A140, H⟩ := H
          replace H : (if t658 = t661 then (if t656 = t659 then (if t657 = t660 then (if t663 = 0 then ((laws_sameTexts.f kj2 t662 t666).bind fun t678 => (if t678 = true then (if t671 = t675 then ((laws_sameRefs.f kj2 t670 t674).bind fun t679 => (if t679 = true then ((impl_RefsOK.f kj2 t651).bind fun t680 => (if t680 = true then (laws_FnRefs.j1 kj2 t651 t654 (wrap64 (1 + t655)) t657 t659 t660 t661 ((t675 == 14) != (t661 == 0))) else (laws_FnRefs.j1 kj2 t651 t654 (wrap64 (1 + t655)) t657 t659 t660 t661 true))) else (laws_FnRefs.j1 kj2 t651 t654 (wrap64 (1 + t655)) t657 t659 t660 t661 true))) else (laws_FnRefs.j1 kj2 t651 t654 (wrap64 (1 + t655)) t657 t659 t660 t661 true)) else (laws_FnRefs.j1 kj2 t651 t654 (wrap64 (1 + t655)) t657 t659 t660 t661 true))) else (laws_FnRefs.j1 kj2 t651 t654 (wrap64 (1 + t655)) t657 t659 t660 t661 true)) else (laws_FnRefs.j1 kj2 t651 t654 (wrap64 (1 + t655)) t657 t659 t660 t661 true)) else (laws_FnRefs.j1 kj2 t651 t654 (wrap64 (1 + t655)) t657 t659 t660 t661 true)) else (laws_FnRefs.j1 kj2 t651 t654 (wrap64 (1 + t655)) t657 t659 t660 t661 true)) = some true := H
          have A14 := Aside0.mk A140
          clear A140
          have HC15 := Aside0.mk H
          clear H
          go_upto_region 12 with (first | ((with_reducible refine gate_callee (f := 18) rfl ?_); refine goesL_ (some 51) rfl rfl Try.func18 (by kernel_rfl) rfl #[.slice A0 l0.length c0] rfl gA ?_; (with_reducible refine (spec_RefsDrawn.calls kj2 _ _ l0 t651 _ ?side1 ?side2 A6.out).mono ?_); (case side1 => exact cB HR0); (case side2 => exact HC0.out); rintro e w16 ⟨v652, rfl, ho0, hb⟩; refine ⟨_, rfl, ?_⟩; have n0_ := Aside0.mk (Kd.R_lower ho0 (below_size (w := w) bW)); have n1_ := Aside0.mk (below_step (w := w) bW hb); clear HB; have HO653 := n0_; have HB := n1_; clear n0_ n1_; (try clear hb); (try clear hb2); (try clear hk); (try clear hi); (try clear ho0)) | ((with_reducible refine gate_callee (f := 19) rfl ?_); refine goesL_ (some 53) rfl rfl Try.func19 (by kernel_rfl) rfl #[.slice A1 l1.length c1] rfl gA ?_; (with_reducible refine (spec_BranchDrawn.calls _ _ l1 t654 _ ?side1 ?side2 A7.out).mono ?_); (case side1 => exact cB HR1); (case side2 => exact HC1.out); rintro e w17 ⟨rfl, hb⟩; refine ⟨_, rfl, ?_⟩; have n0_ := Aside0.mk (Kd.R_below (pR HO653) hb); have n1_ := Aside0.mk (below_step (w := w) bW hb); clear HO653; clear HB; have HO653 := n0_; have HB := n1_; clear n0_ n1_; (try clear hb); (try clear hb2); (try clear hk); (try clear hi)) | ((with_reducible refine gate_callee (f := 8) rfl ?_); refine goesL_ (some 55) rfl rfl Try.func8 (by kernel_rfl) rfl #[.slice A1 l1.length c1, .int .i64 0, .int .i64 9] rfl gA ?_; (with_reducible refine (laws_at.calls _ _ l1 0 9 t655 _ ?side1 ?side2 A8.out).mono ?_); (case side1 => exact cB HR1); (case side2 => exact HC1.out); rintro e w' ⟨rfl, ⟨nd, rfl⟩⟩; refine ⟨_, rfl, ?_⟩; obtain ⟨Ao18, co18, eo18⟩ := Kd.R_slice HO653.out; subst eo18) | ((with_reducible refine gate_callee (f := 20) rfl ?_); refine goesL_ (some 60) rfl rfl Try.func20 (by kernel_rfl) rfl #[.slice Ao18 t651.length co18, .string t654] rfl gA ?_; (with_reducible refine (impl_LoadRef.calls kj2 _ _ t651 t654 t656 t657 t658 _ ?side1 ?side2 A9.out).mono ?_); (case side1 => repeat (first | exact (Kd.R_reads' HO653.out).2.2 | (with_reducible refine Kd.C_alloc ?_ _) | (with_reducible refine Kd.C_drewN ?_ _) | (with_reducible refine Kd.C_drew ?_))); (case side2 => exact (Kd.R_reads' HO653.out).2.1); rintro e w19 ⟨rfl, hb⟩; refine ⟨_, rfl, ?_⟩; have n0_ := Aside0.mk (Kd.R_below (pR HO653) hb); have n1_ := Aside0.mk (below_step (w := w) bW hb); clear HO653; clear HB; have HO653 := n0_; have HB := n1_; clear n0_ n1_; (try clear hb); (try clear hb2); (try clear hk); (try clear hi)) | ((with_reducible refine gate_callee (f := 21) rfl ?_); refine goesL_ (some 67) rfl rfl Try.func21 (by kernel_rfl) rfl #[.slice Ao18 t651.length co18, .string t654] rfl gA ?_; (with_reducible refine (spec_LoadRef.calls kj2 _ _ t651 t654 t659 t660 t661 _ ?side1 ?side2 A10.out).mono ?_); (case side1 => repeat (first | exact (Kd.R_reads' HO653.out).2.2 | (with_reducible refine Kd.C_alloc ?_ _) | (with_reducible refine Kd.C_drewN ?_ _) | (with_reducible refine Kd.C_drew ?_))); (case side2 => exact (Kd.R_reads' HO653.out).2.1); rintro e w20 ⟨rfl, hb⟩; refine ⟨_, rfl, ?_⟩; have n0_ := Aside0.mk (Kd.R_below (pR HO653) hb); have n1_ := Aside0.mk (below_step (w := w) bW hb); clear HO653; clear HB; have HO653 := n0_; have HB := n1_; clear n0_ n1_; (try clear hb); (try clear hb2); (try clear hk); (try clear hi)) | ((with_reducible refine gate_callee (f := 22) rfl ?_); refine goesL_ (some 73) rfl rfl Try.func22 (by kernel_rfl) rfl #[.slice Ao18 t651.length co18] rfl gA ?_; (with_reducible refine (impl_LiveRefs.calls kj2 _ _ t651 t662 t663 _ ?side1 ?side2 A11.out).mono ?_); (case side1 => repeat (first | exact (Kd.R_reads' HO653.out).2.2 | (with_reducible refine Kd.C_alloc ?_ _) | (with_reducible refine Kd.C_drewN ?_ _) | (with_reducible refine Kd.C_drew ?_))); (case side2 => exact (Kd.R_reads' HO653.out).2.1); rintro e w21 ⟨v664, rfl, ho0, hb⟩; refine ⟨_, rfl, ?_⟩; have n0_ := Aside0.mk (Kd.R_below (pR HO653) hb); have n1_ := Aside0.mk (Kd.R_lower ho0 (below_size (w := w) bW)); have n2_ := Aside0.mk (below_step (w := w) bW hb); clear HO653; clear HB; have HO653 := n0_; have HO665 := n1_; have HB := n2_; clear n0_ n1_ n2_; (try clear hb); (try clear hb2); (try clear hk); (try clear hi); (try clear ho0)) | ((with_reducible refine gate_callee (f := 23) rfl ?_); refine goesL_ (some 78) rfl rfl Try.func23 (by kernel_rfl) rfl #[.slice Ao18 t651.length co18] rfl gA ?_; (with_reducible refine (spec_LiveRefs.calls kj2 _ _ t651 t666 t667 _ ?side1 ?side2 A12.out).mono ?_); (case side1 => repeat (first | exact (Kd.R_reads' HO653.out).2.2 | (with_reducible refine Kd.C_alloc ?_ _) | (with_reducible refine Kd.C_drewN ?_ _) | (with_reducible refine Kd.C_drew ?_))); (case side2 => exact (Kd.R_reads' HO653.out).2.1); rintro e w22 ⟨v668, rfl, ho0, hb⟩; refine ⟨_, rfl, ?_⟩; have n0_ := Aside0.mk (Kd.R_below (pR HO653) hb); have n1_ := Aside0.mk (Kd.R_elder' (pR HO665) (Kd.R_base ho0) hb); have n2_ := Aside0.mk (Kd.R_lower (Kd.R_new' ho0 (Kd.R_lt (pR HO665))) (below_size (w := w) bW)); have n3_ := Aside0.mk (below_step (w := w) bW hb); clear HO653; clear HO665; clear HB; have HO653 := n0_; have HO665 := n1_; have HO669 := n2_; have HB := n3_; clear n0_ n1_ n2_ n3_; (try clear hb); (try clear hb2); (try clear hk); (try clear hi); (try clear ho0)) | ((with_reducible refine gate_callee (f := 24) rfl ?_); refine goesL_ (some 85) rfl rfl Try.func24 (by kernel_rfl) rfl #[.slice Ao18 t651.length co18, .string t654, .int .i64 (wrap64 (1 + t655))] rfl gA ?_; (with_reducible refine (impl_CreateRef.calls kj2 _ _ t651 t654 (wrap64 (1 + t655)) t670 t671 _ ?side1 ?side2 A13.out).mono ?_); (case side1 => repeat (first | exact (Kd.R_reads' HO653.out).2.2 | (with_reducible refine Kd.C_alloc ?_ _) | (with_reducible refine Kd.C_drewN ?_ _) | (with_reducible refine Kd.C_drew ?_))); (case side2 => exact (Kd.R_reads' HO653.out).2.1); rintro e w23 ⟨v672, rfl, ho0, hb⟩; refine ⟨_, rfl, ?_⟩; have n0_ := Aside0.mk (Kd.R_elder' (pR HO653) (Kd.R_base ho0) hb); have n1_ := Aside0.mk (Kd.R_below (pR HO665) hb); have n2_ := Aside0.mk (Kd.R_below (pR HO669) hb); have n3_ := Aside0.mk (Kd.R_lower (Kd.R_new' ho0 (Kd.R_lt (pR HO653))) (below_size (w := w) bW)); have n4_ := Aside0.mk (below_step (w := w) bW hb); clear HO653; clear HO665; clear HO669; clear HB; have HO653 := n0_; have HO665 := n1_; have HO669 := n2_; have HO673 := n3_; have HB := n4_; clear n0_ n1_ n2_ n3_ n4_; (try clear hb); (try clear hb2); (try clear hk); (try clear hi); (try clear ho0)) | ((with_reducible refine gate_callee (f := 25) rfl ?_); refine goesL_ (some 92) rfl rfl Try.func25 (by kernel_rfl) rfl #[.slice Ao18 t651.length co18, .string t654, .int .i64 (wrap64 (1 + t655))] rfl gA ?_; (with_reducible refine (spec_CreateRef.calls kj2 _ _ t651 t654 (wrap64 (1 + t655)) t674 t675 _ ?side1 ?side2 A14.out).mono ?_); (case side1 => repeat (first | exact (Kd.R_reads' HO653.out).2.2 | (with_reducible refine Kd.C_alloc ?_ _) | (with_reducible refine Kd.C_drewN ?_ _) | (with_reducible refine Kd.C_drew ?_))); (case side2 => exact (Kd.R_reads' HO653.out).2.1); rintro e w24 ⟨v676, rfl, ho0, hb⟩; refine ⟨_, rfl, ?_⟩; have n0_ := Aside0.mk (Kd.R_elder' (pR HO653) (Kd.R_base ho0) hb); have n1_ := Aside0.mk (Kd.R_below (pR HO665) hb); have n2_ := Aside0.mk (Kd.R_below (pR HO669) hb); have n3_ := Aside0.mk (Kd.R_elder' (pR HO673) (Kd.R_base ho0) hb); have n4_ := Aside0.mk (Kd.R_lower (Kd.R_new' (Kd.R_new' ho0 (Kd.R_lt (pR HO653))) (Kd.R_lt (pR HO673))) (below_size (w := w) bW)); have n5_ := Aside0.mk (below_step (w := w) bW hb); clear HO653; clear HO665; clear HO669; clear HO673; clear HB; have HO653 := n0_; have HO665 := n1_; have HO669 := n2_; have HO673 := n3_; have HO677 := n4_; have HB := n5_; clear n0_ n1_ n2_ n3_ n4_ n5_; (try clear hb); (try clear hb2); (try clear hk); (try clear hi); (try clear ho0)))
          (try simp only [Act.put, List.setIfInBounds_toArray, List.set_cons_zero, List.set_cons_succ])
          go_cut [140] (fun v140 wc => ∃ (kq : Nat) (x140_14 : Bool), v140 = .bool x140_14 ∧ Aside0 (laws_FnRefs.j1 kq t651 t654 (wrap64 (1 + t655)) t657 t659 t660 t661 x140_14 = some true) ∧ Aside0 (kq ≤ kj2) ∧ Aside0 (Kd.R k79 79 wc w.heap.size (fun _ => True) (.slice Ao18 t651.length co18) t651) ∧ Aside0 (Below w.heap.size w wc))
          case first =>
            as_aux_lemma =>
              have H := HC15.out
              clear HC15
              by_cases c25 : t658 = t661
              · rw [if_pos c25] at H
                have c25b0 : (t658 == t661) = true := beq_iff_eq.mpr c25
                have c25b1 : (t658 != t661) = false := bne_eq_false_iff_eq.mpr c25
                clear c25
                (first | rw [c25b0] | (simp only [i64_w, i32_w]; rw [c25b0]) | skip)
                by_cases c26 : t656 = t659
                · rw [if_pos c26] at H
                  have c26b0 : (t656 == t659) = true := beq_iff_eq.mpr c26
                  have c26b1 : (t656 != t659) = false := bne_eq_false_iff_eq.mpr c26
                  clear c26
                  by_cases c27 : t657 = t660
                  · rw [if_pos c27] at H
                    have c27b0 : (t657 == t660) = true := beq_iff_eq.mpr c27
                    have c27b1 : (t657 != t660) = false := bne_eq_false_iff_eq.mpr c27
                    clear c27
                    by_cases c28 : t663 = 0
                    · rw [if_pos c28] at H
                      have c28b0 : (t663 == 0) = true := beq_iff_eq.mpr c28
                      have c28b1 : (t663 != 0) = false := bne_eq_false_iff_eq.mpr c28
                      clear c28
                      replace H := Option.bind_eq_some_iff.mp H
                      obtain ⟨t678, A290, H⟩ := H
                      replace H : (if t678 = true then (if t671 = t675 then ((laws_sameRefs.f kj2 t670 t674).bind fun t679 => (if t679 = true then ((impl_RefsOK.f kj2 t651).bind fun t680 => (if t680 = true then (laws_FnRefs.j1 kj2 t651 t654 (wrap64 (1 + t655)) t657 t659 t660 t661 ((t675 == 14) != (t661 == 0))) else (laws_FnRefs.j1 kj2 t651 t654 (wrap64 (1 + t655)) t657 t659 t660 t661 true))) else (laws_FnRefs.j1 kj2 t651 t654 (wrap64 (1 + t655)) t657 t659 t660 t661 true))) else (laws_FnRefs.j1 kj2 t651 t654 (wrap64 (1 + t655)) t657 t659 t660 t661 true)) else (laws_FnRefs.j1 kj2 t651 t654 (wrap64 (1 + t655)) t657 t659 t660 t661 true)) = some true := H
                      have A29 := Aside0.mk A290
                      clear A290
                      by_cases c30 : t678 = true
                      · subst c30
                        have H1 : (if t671 = t675 then ((laws_sameRefs.f kj2 t670 t674).bind fun t679 => (if t679 = true then ((impl_RefsOK.f kj2 t651).bind fun t680 => (if t680 = true then (laws_FnRefs.j1 kj2 t651 t654 (wrap64 (1 + t655)) t657 t659 t660 t661 ((t675 == 14) != (t661 == 0))) else (laws_FnRefs.j1 kj2 t651 t654 (wrap64 (1 + t655)) t657 t659 t660 t661 true))) else (laws_FnRefs.j1 kj2 t651 t654 (wrap64 (1 + t655)) t657 t659 t660 t661 true))) else (laws_FnRefs.j1 kj2 t651 t654 (wrap64 (1 + t655)) t657 t659 t660 t661 true)) = some true := by rw [if_pos rfl] at H; exact H
                        clear H
                        have H := H1
                        clear H1
                        by_cases c31 : t671 = t675
                        · rw [if_pos c31] at H
                          have c31b0 : (t671 == t675) = true := beq_iff_eq.mpr c31
                          have c31b1 : (t671 != t675) = false := bne_eq_false_iff_eq.mpr c31
                          clear c31
                          replace H := Option.bind_eq_some_iff.mp H
                          obtain ⟨t679, A320, H⟩ := H
                          replace H : (if t679 = true then ((impl_RefsOK.f kj2 t651).bind fun t680 => (if t680 = true then (laws_FnRefs.j1 kj2 t651 t654 (wrap64 (1 + t655)) t657 t659 t660 t661 ((t675 == 14) != (t661 == 0))) else (laws_FnRefs.j1 kj2 t651 t654 (wrap64 (1 + t655)) t657 t659 t660 t661 true))) else (laws_FnRefs.j1 kj2 t651 t654 (wrap64 (1 + t655)) t657 t659 t660 t661 true)) = some true := H
                          have A32 := Aside0.mk A320
                          clear A320
                          by_cases c33 : t679 = true
                          · subst c33
                            have H1 : ((impl_RefsOK.f kj2 t651).bind fun t680 => (if t680 = true then (laws_FnRefs.j1 kj2 t651 t654 (wrap64 (1 + t655)) t657 t659 t660 t661 ((t675 == 14) != (t661 == 0))) else (laws_FnRefs.j1 kj2 t651 t654 (wrap64 (1 + t655)) t657 t659 t660 t661 true))) = some true := by rw [if_pos rfl] at H; exact H
                            clear H
                            have H := H1
                            clear H1
                            replace H := Option.bind_eq_some_iff.mp H
                            obtain ⟨t680, A340, H⟩ := H
                            replace H : (if t680 = true then (laws_FnRefs.j1 kj2 t651 t654 (wrap64 (1 + t655)) t657 t659 t660 t661 ((t675 == 14) != (t661 == 0))) else (laws_FnRefs.j1 kj2 t651 t654 (wrap64 (1 + t655)) t657 t659 t660 t661 true)) = some true := H
                            have A34 := Aside0.mk A340
                            clear A340
                            by_cases c35 : t680 = true
                            · subst c35
                              have H1 : (laws_FnRefs.j1 kj2 t651 t654 (wrap64 (1 + t655)) t657 t659 t660 t661 ((t675 == 14) != (t661 == 0))) = some true := by rw [if_pos rfl] at H; exact H
                              clear H
                              have H := H1
                              clear H1
                              have H' := Aside0.mk H
                              clear H
                              obtain ⟨Ao36, co36, eo36⟩ := Kd.R_slice HO665.out
                              subst eo36
                              obtain ⟨Ao37, co37, eo37⟩ := Kd.R_slice HO669.out
                              subst eo37
                              go_wp2_with (first | (go_at_call 26; (with_reducible refine (laws_sameTexts.calls kj2 _ _ t662 _ _ t666 true _ ?side1 ?side2 ?side3 ?side4 A29.out).mono ?_); (case side1 => repeat (first | exact (Kd.R_reads' HO665.out).2.2 | (with_reducible refine Kd.C_alloc ?_ _) | (with_reducible refine Kd.C_drewN ?_ _) | (with_reducible refine Kd.C_drew ?_))); (case side2 => exact (Kd.R_reads' HO665.out).2.1); (case side3 => repeat (first | exact (Kd.R_reads' HO669.out).2.2 | (with_reducible refine Kd.C_alloc ?_ _) | (with_reducible refine Kd.C_drewN ?_ _) | (with_reducible refine Kd.C_drew ?_))); (case side4 => exact (Kd.R_reads' HO669.out).2.1); rintro e w' ⟨rfl, ⟨nd, rfl⟩⟩; obtain ⟨Ao38, co38, eo38⟩ := Kd.R_slice HO673.out; subst eo38; obtain ⟨Ao39, co39, eo39⟩ := Kd.R_slice HO677.out; subst eo39) | (go_at_call 27; (with_reducible refine (laws_sameRefs.calls kj2 _ _ t670 _ _ t674 true _ ?side1 ?side2 ?side3 ?side4 A32.out).mono ?_); (case side1 => repeat (first | exact (Kd.R_reads' HO673.out).2.2 | (with_reducible refine Kd.C_alloc ?_ _) | (with_reducible refine Kd.C_drewN ?_ _) | (with_reducible refine Kd.C_drew ?_))); (case side2 => exact (Kd.R_reads' HO673.out).2.1); (case side3 => repeat (first | exact (Kd.R_reads' HO677.out).2.2 | (with_reducible refine Kd.C_alloc ?_ _) | (with_reducible refine Kd.C_drewN ?_ _) | (with_reducible refine Kd.C_drew ?_))); (case side4 => exact (Kd.R_reads' HO677.out).2.1); rintro e w' ⟨rfl, ⟨nd, rfl⟩⟩) | (go_at_call 28; (with_reducible refine (impl_RefsOK.calls kj2 _ _ t651 true _ ?side1 ?side2 A34.out).mono ?_); (case side1 => repeat (first | exact (Kd.R_reads' HO653.out).2.2 | (with_reducible refine Kd.C_alloc ?_ _) | (with_reducible refine Kd.C_drewN ?_ _) | (with_reducible refine Kd.C_drew ?_))); (case side2 => exact (Kd.R_reads' HO653.out).2.1); rintro e w40 ⟨rfl, hb⟩; have n0_ := Aside0.mk (Kd.R_below (pR HO653) hb); have n1_ := Aside0.mk (Kd.R_below (pR HO665) hb); have n2_ := Aside0.mk (Kd.R_below (pR HO669) hb); have n3_ := Aside0.mk (Kd.R_below (pR HO673) hb); have n4_ := Aside0.mk (Kd.R_below (pR HO677) hb); have n5_ := Aside0.mk (below_step (w := w) bW hb); clear HO653; clear HO665; clear HO669; clear HO673; clear HO677; clear HB; have HO653 := n0_; have HO665 := n1_; have HO669 := n2_; have HO673 := n3_; have HO677 := n4_; have HB := n5_; clear n0_ n1_ n2_ n3_ n4_ n5_; (try clear hb); (try clear hb2); (try clear hk); (try clear hi)))
                              go_meet
                              case rel => exact ⟨_, (((t675 == 14) != (t661 == 0))), vE, H', ⟨by have := HJ2.out; first | omega | exact Nat.le_refl _⟩, ⟨by (with_reducible repeat (first | apply Kd.R_alloc | apply Kd.R_drewN | apply Kd.R_drew)); exact Kd.R_mono HO653.out (fun _ hk => trivial)⟩, ⟨bW⟩⟩
                            · replace c35 := Bool.eq_false_iff.mpr c35
                              subst c35
                              have H1 : (laws_FnRefs.j1 kj2 t651 t654 (wrap64 (1 + t655)) t657 t659 t660 t661 true) = some true := by rw [if_neg (show ¬ (false = true) by decide)] at H; exact H
                              clear H
                              have H := H1
                              clear H1
                              have H' := Aside0.mk H
                              clear H
                              obtain ⟨Ao41, co41, eo41⟩ := Kd.R_slice HO665.out
                              subst eo41
                              obtain ⟨Ao42, co42, eo42⟩ := Kd.R_slice HO669.out
                              subst eo42
                              go_wp2_with (first | (go_at_call 26; (with_reducible refine (laws_sameTexts.calls kj2 _ _ t662 _ _ t666 true _ ?side1 ?side2 ?side3 ?side4 A29.out).mono ?_); (case side1 => repeat (first | exact (Kd.R_reads' HO665.out).2.2 | (with_reducible refine Kd.C_alloc ?_ _) | (with_reducible refine Kd.C_drewN ?_ _) | (with_reducible refine Kd.C_drew ?_))); (case side2 => exact (Kd.R_reads' HO665.out).2.1); (case side3 => repeat (first | exact (Kd.R_reads' HO669.out).2.2 | (with_reducible refine Kd.C_alloc ?_ _) | (with_reducible refine Kd.C_drewN ?_ _) | (with_reducible refine Kd.C_drew ?_))); (case side4 => exact (Kd.R_reads' HO669.out).2.1); rintro e w' ⟨rfl, ⟨nd, rfl⟩⟩; obtain ⟨Ao43, co43, eo43⟩ := Kd.R_slice HO673.out; subst eo43; obtain ⟨Ao44, co44, eo44⟩ := Kd.R_slice HO677.out; subst eo44) | (go_at_call 27; (with_reducible refine (laws_sameRefs.calls kj2 _ _ t670 _ _ t674 true _ ?side1 ?side2 ?side3 ?side4 A32.out).mono ?_); (case side1 => repeat (first | exact (Kd.R_reads' HO673.out).2.2 | (with_reducible refine Kd.C_alloc ?_ _) | (with_reducible refine Kd.C_drewN ?_ _) | (with_reducible refine Kd.C_drew ?_))); (case side2 => exact (Kd.R_reads' HO673.out).2.1); (case side3 => repeat (first | exact (Kd.R_reads' HO677.out).2.2 | (with_reducible refine Kd.C_alloc ?_ _) | (with_reducible refine Kd.C_drewN ?_ _) | (with_reducible refine Kd.C_drew ?_))); (case side4 => exact (Kd.R_reads' HO677.out).2.1); rintro e w' ⟨rfl, ⟨nd, rfl⟩⟩) | (go_at_call 28; (with_reducible refine (impl_RefsOK.calls kj2 _ _ t651 false _ ?side1 ?side2 A34.out).mono ?_); (case side1 => repeat (first | exact (Kd.R_reads' HO653.out).2.2 | (with_reducible refine Kd.C_alloc ?_ _) | (with_reducible refine Kd.C_drewN ?_ _) | (with_reducible refine Kd.C_drew ?_))); (case side2 => exact (Kd.R_reads' HO653.out).2.1); rintro e w45 ⟨rfl, hb⟩; have n0_ := Aside0.mk (Kd.R_below (pR HO653) hb); have n1_ := Aside0.mk (Kd.R_below (pR HO665) hb); have n2_ := Aside0.mk (Kd.R_below (pR HO669) hb); have n3_ := Aside0.mk (Kd.R_below (pR HO673) hb); have n4_ := Aside0.mk (Kd.R_below (pR HO677) hb); have n5_ := Aside0.mk (below_step (w := w) bW hb); clear HO653; clear HO665; clear HO669; clear HO673; clear HO677; clear HB; have HO653 := n0_; have HO665 := n1_; have HO669 := n2_; have HO673 := n3_; have HO677 := n4_; have HB := n5_; clear n0_ n1_ n2_ n3_ n4_ n5_; (try clear hb); (try clear hb2); (try clear hk); (try clear hi)))
                              go_meet
                              case rel => exact ⟨_, (true), vE, H', ⟨by have := HJ2.out; first | omega | exact Nat.le_refl _⟩, ⟨by (with_reducible repeat (first | apply Kd.R_alloc | apply Kd.R_drewN | apply Kd.R_drew)); exact Kd.R_mono HO653.out (fun _ hk => trivial)⟩, ⟨bW⟩⟩
                          · replace c33 := Bool.eq_false_iff.mpr c33
                            subst c33
                            have H1 : (laws_FnRefs.j1 kj2 t651 t654 (wrap64 (1 + t655)) t657 t659 t660 t661 true) = some true := by rw [if_neg (show ¬ (false = true) by decide)] at H; exact H
                            clear H
                            have H := H1
                            clear H1
                            have H' := Aside0.mk H
                            clear H
                            obtain ⟨Ao46, co46, eo46⟩ := Kd.R_slice HO665.out
                            subst eo46
                            obtain ⟨Ao47, co47, eo47⟩ := Kd.R_slice HO669.out
                            subst eo47
                            go_wp2_with (first | (go_at_call 26; (with_reducible refine (laws_sameTexts.calls kj2 _ _ t662 _ _ t666 true _ ?side1 ?side2 ?side3 ?side4 A29.out).mono ?_); (case side1 => repeat (first | exact (Kd.R_reads' HO665.out).2.2 | (with_reducible refine Kd.C_alloc ?_ _) | (with_reducible refine Kd.C_drewN ?_ _) | (with_reducible refine Kd.C_drew ?_))); (case side2 => exact (Kd.R_reads' HO665.out).2.1); (case side3 => repeat (first | exact (Kd.R_reads' HO669.out).2.2 | (with_reducible refine Kd.C_alloc ?_ _) | (with_reducible refine Kd.C_drewN ?_ _) | (with_reducible refine Kd.C_drew ?_))); (case side4 => exact (Kd.R_reads' HO669.out).2.1); rintro e w' ⟨rfl, ⟨nd, rfl⟩⟩; obtain ⟨Ao48, co48, eo48⟩ := Kd.R_slice HO673.out; subst eo48; obtain ⟨Ao49, co49, eo49⟩ := Kd.R_slice HO677.out; subst eo49) | (go_at_call 27; (with_reducible refine (laws_sameRefs.calls kj2 _ _ t670 _ _ t674 false _ ?side1 ?side2 ?side3 ?side4 A32.out).mono ?_); (case side1 => repeat (first | exact (Kd.R_reads' HO673.out).2.2 | (with_reducible refine Kd.C_alloc ?_ _) | (with_reducible refine Kd.C_drewN ?_ _) | (with_reducible refine Kd.C_drew ?_))); (case side2 => exact (Kd.R_reads' HO673.out).2.1); (case side3 => repeat (first | exact (Kd.R_reads' HO677.out).2.2 | (with_reducible refine Kd.C_alloc ?_ _) | (with_reducible refine Kd.C_drewN ?_ _) | (with_reducible refine Kd.C_drew ?_))); (case side4 => exact (Kd.R_reads' HO677.out).2.1); rintro e w' ⟨rfl, ⟨nd, rfl⟩⟩))
                            go_meet
                            case rel => exact ⟨_, (true), vE, H', ⟨by have := HJ2.out; first | omega | exact Nat.le_refl _⟩, ⟨by (with_reducible repeat (first | apply Kd.R_alloc | apply Kd.R_drewN | apply Kd.R_drew)); exact Kd.R_mono HO653.out (fun _ hk => trivial)⟩, ⟨bW⟩⟩
                        · rw [if_neg c31] at H
                          have c31b0 : (t671 == t675) = false := beq_eq_false_iff_ne.mpr c31
                          have c31b1 : (t671 != t675) = true := bne_iff_ne.mpr c31
                          have H' := Aside0.mk H
                          clear H
                          obtain ⟨Ao50, co50, eo50⟩ := Kd.R_slice HO665.out
                          subst eo50
                          obtain ⟨Ao51, co51, eo51⟩ := Kd.R_slice HO669.out
                          subst eo51
                          go_wp2_with (first | (go_at_call 26; (with_reducible refine (laws_sameTexts.calls kj2 _ _ t662 _ _ t666 true _ ?side1 ?side2 ?side3 ?side4 A29.out).mono ?_); (case side1 => repeat (first | exact (Kd.R_reads' HO665.out).2.2 | (with_reducible refine Kd.C_alloc ?_ _) | (with_reducible refine Kd.C_drewN ?_ _) | (with_reducible refine Kd.C_drew ?_))); (case side2 => exact (Kd.R_reads' HO665.out).2.1); (case side3 => repeat (first | exact (Kd.R_reads' HO669.out).2.2 | (with_reducible refine Kd.C_alloc ?_ _) | (with_reducible refine Kd.C_drewN ?_ _) | (with_reducible refine Kd.C_drew ?_))); (case side4 => exact (Kd.R_reads' HO669.out).2.1); rintro e w' ⟨rfl, ⟨nd, rfl⟩⟩))
                          go_meet
                          case rel => exact ⟨_, (true), vE, H', ⟨by have := HJ2.out; first | omega | exact Nat.le_refl _⟩, ⟨by (with_reducible repeat (first | apply Kd.R_alloc | apply Kd.R_drewN | apply Kd.R_drew)); exact Kd.R_mono HO653.out (fun _ hk => trivial)⟩, ⟨bW⟩⟩
                      · replace c30 := Bool.eq_false_iff.mpr c30
                        subst c30
                        have H1 : (laws_FnRefs.j1 kj2 t651 t654 (wrap64 (1 + t655)) t657 t659 t660 t661 true) = some true := by rw [if_neg (show ¬ (false = true) by decide)] at H; exact H
                        clear H
                        have H := H1
                        clear H1
                        have H' := Aside0.mk H
                        clear H
                        obtain ⟨Ao52, co52, eo52⟩ := Kd.R_slice HO665.out
                        subst eo52
                        obtain ⟨Ao53, co53, eo53⟩ := Kd.R_slice HO669.out
                        subst eo53
                        go_wp2_with (first | (go_at_call 26; (with_reducible refine (laws_sameTexts.calls kj2 _ _ t662 _ _ t666 false _ ?side1 ?side2 ?side3 ?side4 A29.out).mono ?_); (case side1 => repeat (first | exact (Kd.R_reads' HO665.out).2.2 | (with_reducible refine Kd.C_alloc ?_ _) | (with_reducible refine Kd.C_drewN ?_ _) | (with_reducible refine Kd.C_drew ?_))); (case side2 => exact (Kd.R_reads' HO665.out).2.1); (case side3 => repeat (first | exact (Kd.R_reads' HO669.out).2.2 | (with_reducible refine Kd.C_alloc ?_ _) | (with_reducible refine Kd.C_drewN ?_ _) | (with_reducible refine Kd.C_drew ?_))); (case side4 => exact (Kd.R_reads' HO669.out).2.1); rintro e w' ⟨rfl, ⟨nd, rfl⟩⟩))
                        go_meet
                        case rel => exact ⟨_, (true), vE, H', ⟨by have := HJ2.out; first | omega | exact Nat.le_refl _⟩, ⟨by (with_reducible repeat (first | apply Kd.R_alloc | apply Kd.R_drewN | apply Kd.R_drew)); exact Kd.R_mono HO653.out (fun _ hk => trivial)⟩, ⟨bW⟩⟩
                    · rw [if_neg c28] at H
                      have c28b0 : (t663 == 0) = false := beq_eq_false_iff_ne.mpr c28
                      have c28b1 : (t663 != 0) = true := bne_iff_ne.mpr c28
                      have H' := Aside0.mk H
                      clear H
                      go_wp2
                      go_meet
                      case rel => exact ⟨_, (true), vE, H', ⟨by have := HJ2.out; first | omega | exact Nat.le_refl _⟩, ⟨by (with_reducible repeat (first | apply Kd.R_alloc | apply Kd.R_drewN | apply Kd.R_drew)); exact Kd.R_mono HO653.out (fun _ hk => trivial)⟩, ⟨bW⟩⟩
                  · rw [if_neg c27] at H
                    have c27b0 : (t657 == t660) = false := beq_eq_false_iff_ne.mpr c27
                    have c27b1 : (t657 != t660) = true := bne_iff_ne.mpr c27
                    have H' := Aside0.mk H
                    clear H
                    go_wp2
                    go_meet
                    case rel => exact ⟨_, (true), vE, H', ⟨by have := HJ2.out; first | omega | exact Nat.le_refl _⟩, ⟨by (with_reducible repeat (first | apply Kd.R_alloc | apply Kd.R_drewN | apply Kd.R_drew)); exact Kd.R_mono HO653.out (fun _ hk => trivial)⟩, ⟨bW⟩⟩
                · rw [if_neg c26] at H
                  have c26b0 : (t656 == t659) = false := beq_eq_false_iff_ne.mpr c26
                  have c26b1 : (t656 != t659) = true := bne_iff_ne.mpr c26
                  have H' := Aside0.mk H
                  clear H
                  go_wp2
                  go_meet
                  case rel => exact ⟨_, (true), vE, H', ⟨by have := HJ2.out; first | omega | exact Nat.le_refl _⟩, ⟨by (with_reducible repeat (first | apply Kd.R_alloc | apply Kd.R_drewN | apply Kd.R_drew)); exact Kd.R_mono HO653.out (fun _ hk => trivial)⟩, ⟨bW⟩⟩
              · rw [if_neg c25] at H
                have c25b0 : (t658 == t661) = false := beq_eq_false_iff_ne.mpr c25
                have c25b1 : (t658 != t661) = true := bne_iff_ne.mpr c25
                (first | rw [c25b0] | (simp only [i64_w, i32_w]; rw [c25b0]) | skip)
                have H' := Aside0.mk H
                clear H
                go_wp2
                go_meet
                case rel => exact ⟨_, (true), vE, H', ⟨by have := HJ2.out; first | omega | exact Nat.le_refl _⟩, ⟨by (with_reducible repeat (first | apply Kd.R_alloc | apply Kd.R_drewN | apply Kd.R_drew)); exact Kd.R_mono HO653.out (fun _ hk => trivial)⟩, ⟨bW⟩⟩
          case rest =>
            as_aux_lemma =>
              clear HC15
              try clear c1
              try clear c2
              try clear p2
              try clear c3
              try clear c4
              try clear c4b0
              try clear c4b1
              try clear c5
              try clear p6
              try clear c8
              try clear c18
              try clear c19
              try clear c20
              try clear c21
              try clear c22
              try clear c23
              try clear c24
              try clear c25
              try clear c25b0
              try clear c25b1
              try clear c26
              try clear c26b0
              try clear c26b1
              try clear c27
              try clear c27b0
              try clear c27b1
              try clear c28
              try clear c28b0
              try clear c28b1
              try clear c30
              try clear c31
              try clear c31b0
              try clear c31b1
              try clear c33
              try clear c35
              try clear p2
              obtain ⟨kq, x140_14, rfl, HA, HJ14, HO_5, HB⟩ := hcut
              cases kq with
              | zero => exact absurd HA.out (by simp [laws_FnRefs.j1])
              | succ kj14 =>
                have H := HA.out
                clear HA
                simp only [laws_FnRefs.j1] at H
                by_cases c54 : x140_14 = true
                · subst c54
                  have H1 : (some false) = some true := by rw [if_pos rfl] at H; exact H
                  exact absurd H1 (by simp)
                · replace c54 := Bool.eq_false_iff.mpr c54
                  subst c54
                  have H1 : (if t661 = 0 then ((impl_SwapRef.f kj14 t651 t654 t657 (wrap64 (1 + t655))).bind fun bt681 => ((spec_SwapRef.f kj14 t651 t654 t657 (wrap64 (1 + t655))).bind fun bt685 => ((impl_SwapRef.f kj14 bt681.1 t654 t657 (wrap64 (1 + t655))).bind fun bt689 => ((impl_DeleteRef.f kj14 t651 t654).bind fun bt693 => ((spec_DeleteRef.f kj14 t651 t654).bind fun bt697 => ((impl_CreateRef.f kj14 bt693.1 t654 t659).bind fun bt701 => ((impl_SwapRef.f kj14 bt701.1 t654 t657 (wrap64 (1 + t655))).bind fun bt705 => ((impl_LoadRef.f kj14 bt681.1 t654).bind fun bt709 => ((impl_LoadRef.f kj14 bt693.1 t654).bind fun bt712 => (if bt681.2 = bt685.2 then (if bt685.2 = 0 then ((laws_sameRefs.f kj14 bt681.1 bt685.1).bind fun t715 => (if t715 = true then (if bt689.2 = 13 then (if bt693.2 = bt697.2 then (if bt697.2 = 0 then ((laws_sameRefs.f kj14 bt693.1 bt697.1).bind fun t716 => (if t716 = true then (if bt701.2 = 0 then (if bt705.2 = 13 then (if bt709.2.2 = 0 then (if bt709.1 = (wrap64 (1 + t655)) then (if bt709.2.1 = (wrap64 (t660 + 1)) then (if bt712.2.2 = 10 then (some (bt712.2.1 == 0)) else (some false)) else (some false)) else (some false)) else (some false)) else (some false)) else (some false)) else (some false))) else (some false)) else (some false)) else (some false)) else (some false))) else (some false)) else (some false))))))))))) else (some true)) = some true := by rw [if_neg (show ¬ (false = true) by decide)] at H; exact H
                  clear H
                  have H := H1
                  clear H1
                  by_cases c55 : t661 = 0
                  · rw [if_pos c55] at H
                    have c55b0 : (t661 == 0) = true := beq_iff_eq.mpr c55
                    have c55b1 : (t661 != 0) = false := bne_eq_false_iff_eq.mpr c55
                    clear c55
                    replace H := Option.bind_eq_some_iff.mp H
                    obtain ⟨⟨t681, t682⟩, A560, H⟩ := H
                    replace H : ((spec_SwapRef.f kj14 t651 t654 t657 (wrap64 (1 + t655))).bind fun bt685 => ((impl_SwapRef.f kj14 t681 t654 t657 (wrap64 (1 + t655))).bind fun bt689 => ((impl_DeleteRef.f kj14 t651 t654).bind fun bt693 => ((spec_DeleteRef.f kj14 t651 t654).bind fun bt697 => ((impl_CreateRef.f kj14 bt693.1 t654 t659).bind fun bt701 => ((impl_SwapRef.f kj14 bt701.1 t654 t657 (wrap64 (1 + t655))).bind fun bt705 => ((impl_LoadRef.f kj14 t681 t654).bind fun bt709 => ((impl_LoadRef.f kj14 bt693.1 t654).bind fun bt712 => (if t682 = bt685.2 then (if bt685.2 = 0 then ((laws_sameRefs.f kj14 t681 bt685.1).bind fun t715 => (if t715 = true then (if bt689.2 = 13 then (if bt693.2 = bt697.2 then (if bt697.2 = 0 then ((laws_sameRefs.f kj14 bt693.1 bt697.1).bind fun t716 => (if t716 = true then (if bt701.2 = 0 then (if bt705.2 = 13 then (if bt709.2.2 = 0 then (if bt709.1 = (wrap64 (1 + t655)) then (if bt709.2.1 = (wrap64 (t660 + 1)) then (if bt712.2.2 = 10 then (some (bt712.2.1 == 0)) else (some false)) else (some false)) else (some false)) else (some false)) else (some false)) else (some false)) else (some false))) else (some false)) else (some false)) else (some false)) else (some false))) else (some false)) else (some false)))))))))) = some true := H
                    have A56 := Aside0.mk A560
                    clear A560
                    replace H := Option.bind_eq_some_iff.mp H
                    obtain ⟨⟨t685, t686⟩, A570, H⟩ := H
                    replace H : ((impl_SwapRef.f kj14 t681 t654 t657 (wrap64 (1 + t655))).bind fun bt689 => ((impl_DeleteRef.f kj14 t651 t654).bind fun bt693 => ((spec_DeleteRef.f kj14 t651 t654).bind fun bt697 => ((impl_CreateRef.f kj14 bt693.1 t654 t659).bind fun bt701 => ((impl_SwapRef.f kj14 bt701.1 t654 t657 (wrap64 (1 + t655))).bind fun bt705 => ((impl_LoadRef.f kj14 t681 t654).bind fun bt709 => ((impl_LoadRef.f kj14 bt693.1 t654).bind fun bt712 => (if t682 = t686 then (if t686 = 0 then ((laws_sameRefs.f kj14 t681 t685).bind fun t715 => (if t715 = true then (if bt689.2 = 13 then (if bt693.2 = bt697.2 then (if bt697.2 = 0 then ((laws_sameRefs.f kj14 bt693.1 bt697.1).bind fun t716 => (if t716 = true then (if bt701.2 = 0 then (if bt705.2 = 13 then (if bt709.2.2 = 0 then (if bt709.1 = (wrap64 (1 + t655)) then (if bt709.2.1 = (wrap64 (t660 + 1)) then (if bt712.2.2 = 10 then (some (bt712.2.1 == 0)) else (some false)) else (some false)) else (some false)) else (some false)) else (some false)) else (some false)) else (some false))) else (some false)) else (some false)) else (some false)) else (some false))) else (some false)) else (some false))))))))) = some true := H
                    have A57 := Aside0.mk A570
                    clear A570
                    replace H := Option.bind_eq_some_iff.mp H
                    obtain ⟨⟨t689, t690⟩, A580, H⟩ := H
                    replace H : ((impl_DeleteRef.f kj14 t651 t654).bind fun bt693 => ((spec_DeleteRef.f kj14 t651 t654).bind fun bt697 => ((impl_CreateRef.f kj14 bt693.1 t654 t659).bind fun bt701 => ((impl_SwapRef.f kj14 bt701.1 t654 t657 (wrap64 (1 + t655))).bind fun bt705 => ((impl_LoadRef.f kj14 t681 t654).bind fun bt709 => ((impl_LoadRef.f kj14 bt693.1 t654).bind fun bt712 => (if t682 = t686 then (if t686 = 0 then ((laws_sameRefs.f kj14 t681 t685).bind fun t715 => (if t715 = true then (if t690 = 13 then (if bt693.2 = bt697.2 then (if bt697.2 = 0 then ((laws_sameRefs.f kj14 bt693.1 bt697.1).bind fun t716 => (if t716 = true then (if bt701.2 = 0 then (if bt705.2 = 13 then (if bt709.2.2 = 0 then (if bt709.1 = (wrap64 (1 + t655)) then (if bt709.2.1 = (wrap64 (t660 + 1)) then (if bt712.2.2 = 10 then (some (bt712.2.1 == 0)) else (some false)) else (some false)) else (some false)) else (some false)) else (some false)) else (some false)) else (some false))) else (some false)) else (some false)) else (some false)) else (some false))) else (some false)) else (some false)))))))) = some true := H
                    have A58 := Aside0.mk A580
                    clear A580
                    replace H := Option.bind_eq_some_iff.mp H
                    obtain ⟨⟨t693, t694⟩, A590, H⟩ := H
                    replace H : ((spec_DeleteRef.f kj14 t651 t654).bind fun bt697 => ((impl_CreateRef.f kj14 t693 t654 t659).bind fun bt701 => ((impl_SwapRef.f kj14 bt701.1 t654 t657 (wrap64 (1 + t655))).bind fun bt705 => ((impl_LoadRef.f kj14 t681 t654).bind fun bt709 => ((impl_LoadRef.f kj14 t693 t654).bind fun bt712 => (if t682 = t686 then (if t686 = 0 then ((laws_sameRefs.f kj14 t681 t685).bind fun t715 => (if t715 = true then (if t690 = 13 then (if t694 = bt697.2 then (if bt697.2 = 0 then ((laws_sameRefs.f kj14 t693 bt697.1).bind fun t716 => (if t716 = true then (if bt701.2 = 0 then (if bt705.2 = 13 then (if bt709.2.2 = 0 then (if bt709.1 = (wrap64 (1 + t655)) then (if bt709.2.1 = (wrap64 (t660 + 1)) then (if bt712.2.2 = 10 then (some (bt712.2.1 == 0)) else (some false)) else (some false)) else (some false)) else (some false)) else (some false)) else (some false)) else (some false))) else (some false)) else (some false)) else (some false)) else (some false))) else (some false)) else (some false))))))) = some true := H
                    have A59 := Aside0.mk A590
                    clear A590
                    replace H := Option.bind_eq_some_iff.mp H
                    obtain ⟨⟨t697, t698⟩, A600, H⟩ := H
                    replace H : ((impl_CreateRef.f kj14 t693 t654 t659).bind fun bt701 => ((impl_SwapRef.f kj14 bt701.1 t654 t657 (wrap64 (1 + t655))).bind fun bt705 => ((impl_LoadRef.f kj14 t681 t654).bind fun bt709 => ((impl_LoadRef.f kj14 t693 t654).bind fun bt712 => (if t682 = t686 then (if t686 = 0 then ((laws_sameRefs.f kj14 t681 t685).bind fun t715 => (if t715 = true then (if t690 = 13 then (if t694 = t698 then (if t698 = 0 then ((laws_sameRefs.f kj14 t693 t697).bind fun t716 => (if t716 = true then (if bt701.2 = 0 then (if bt705.2 = 13 then (if bt709.2.2 = 0 then (if bt709.1 = (wrap64 (1 + t655)) then (if bt709.2.1 = (wrap64 (t660 + 1)) then (if bt712.2.2 = 10 then (some (bt712.2.1 == 0)) else (some false)) else (some false)) else (some false)) else (some false)) else (some false)) else (some false)) else (some false))) else (some false)) else (some false)) else (some false)) else (some false))) else (some false)) else (some false)))))) = some true := H
                    have A60 := Aside0.mk A600
                    clear A600
                    replace H := Option.bind_eq_some_iff.mp H
                    obtain ⟨⟨t701, t702⟩, A610, H⟩ := H
                    replace H : ((impl_SwapRef.f kj14 t701 t654 t657 (wrap64 (1 + t655))).bind fun bt705 => ((impl_LoadRef.f kj14 t681 t654).bind fun bt709 => ((impl_LoadRef.f kj14 t693 t654).bind fun bt712 => (if t682 = t686 then (if t686 = 0 then ((laws_sameRefs.f kj14 t681 t685).bind fun t715 => (if t715 = true then (if t690 = 13 then (if t694 = t698 then (if t698 = 0 then ((laws_sameRefs.f kj14 t693 t697).bind fun t716 => (if t716 = true then (if t702 = 0 then (if bt705.2 = 13 then (if bt709.2.2 = 0 then (if bt709.1 = (wrap64 (1 + t655)) then (if bt709.2.1 = (wrap64 (t660 + 1)) then (if bt712.2.2 = 10 then (some (bt712.2.1 == 0)) else (some false)) else (some false)) else (some false)) else (some false)) else (some false)) else (some false)) else (some false))) else (some false)) else (some false)) else (some false)) else (some false))) else (some false)) else (some false))))) = some true := H
                    have A61 := Aside0.mk A610
                    clear A610
                    replace H := Option.bind_eq_some_iff.mp H
                    obtain ⟨⟨t705, t706⟩, A620, H⟩ := H
                    replace H : ((impl_LoadRef.f kj14 t681 t654).bind fun bt709 => ((impl_LoadRef.f kj14 t693 t654).bind fun bt712 => (if t682 = t686 then (if t686 = 0 then ((laws_sameRefs.f kj14 t681 t685).bind fun t715 => (if t715 = true then (if t690 = 13 then (if t694 = t698 then (if t698 = 0 then ((laws_sameRefs.f kj14 t693 t697).bind fun t716 => (if t716 = true then (if t702 = 0 then (if t706 = 13 then (if bt709.2.2 = 0 then (if bt709.1 = (wrap64 (1 + t655)) then (if bt709.2.1 = (wrap64 (t660 + 1)) then (if bt712.2.2 = 10 then (some (bt712.2.1 == 0)) else (some false)) else (some false)) else (some false)) else (some false)) else (some false)) else (some false)) else (some false))) else (some false)) else (some false)) else (some false)) else (some false))) else (some false)) else (some false)))) = some true := H
                    have A62 := Aside0.mk A620
                    clear A620
                    replace H := Option.bind_eq_some_iff.mp H
                    obtain ⟨⟨t709, t710, t711⟩, A630, H⟩ := H
                    replace H : ((impl_LoadRef.f kj14 t693 t654).bind fun bt712 => (if t682 = t686 then (if t686 = 0 then ((laws_sameRefs.f kj14 t681 t685).bind fun t715 => (if t715 = true then (if t690 = 13 then (if t694 = t698 then (if t698 = 0 then ((laws_sameRefs.f kj14 t693 t697).bind fun t716 => (if t716 = true then (if t702 = 0 then (if t706 = 13 then (if t711 = 0 then (if t709 = (wrap64 (1 + t655)) then (if t710 = (wrap64 (t660 + 1)) then (if bt712.2.2 = 10 then (some (bt712.2.1 == 0)) else (some false)) else (some false)) else (some false)) else (some false)) else (some false)) else (some false)) else (some false))) else (some false)) else (some false)) else (some false)) else (some false))) else (some false)) else (some false))) = some true := H
                    have A63 := Aside0.mk A630
                    clear A630
                    replace H := Option.bind_eq_some_iff.mp H
                    obtain ⟨⟨t712, t713, t714⟩, A640, H⟩ := H
                    replace H : (if t682 = t686 then (if t686 = 0 then ((laws_sameRefs.f kj14 t681 t685).bind fun t715 => (if t715 = true then (if t690 = 13 then (if t694 = t698 then (if t698 = 0 then ((laws_sameRefs.f kj14 t693 t697).bind fun t716 => (if t716 = true then (if t702 = 0 then (if t706 = 13 then (if t711 = 0 then (if t709 = (wrap64 (1 + t655)) then (if t710 = (wrap64 (t660 + 1)) then (if t714 = 10 then (some (t713 == 0)) else (some false)) else (some false)) else (some false)) else (some false)) else (some false)) else (some false)) else (some false))) else (some false)) else (some false)) else (some false)) else (some false))) else (some false)) else (some false)) = some true := H
                    have A64 := Aside0.mk A640
                    clear A640
                    by_cases c65 : t682 = t686
                    · rw [if_pos c65] at H
                      have c65b0 : (t682 == t686) = true := beq_iff_eq.mpr c65
                      have c65b1 : (t682 != t686) = false := bne_eq_false_iff_eq.mpr c65
                      clear c65
                      by_cases c66 : t686 = 0
                      · rw [if_pos c66] at H
                        have c66b0 : (t686 == 0) = true := beq_iff_eq.mpr c66
                        have c66b1 : (t686 != 0) = false := bne_eq_false_iff_eq.mpr c66
                        clear c66
                        replace H := Option.bind_eq_some_iff.mp H
                        obtain ⟨t715, A670, H⟩ := H
                        replace H : (if t715 = true then (if t690 = 13 then (if t694 = t698 then (if t698 = 0 then ((laws_sameRefs.f kj14 t693 t697).bind fun t716 => (if t716 = true then (if t702 = 0 then (if t706 = 13 then (if t711 = 0 then (if t709 = (wrap64 (1 + t655)) then (if t710 = (wrap64 (t660 + 1)) then (if t714 = 10 then (some (t713 == 0)) else (some false)) else (some false)) else (some false)) else (some false)) else (some false)) else (some false)) else (some false))) else (some false)) else (some false)) else (some false)) else (some false)) = some true := H
                        have A67 := Aside0.mk A670
                        clear A670
                        by_cases c68 : t715 = true
                        · subst c68
                          have H1 : (if t690 = 13 then (if t694 = t698 then (if t698 = 0 then ((laws_sameRefs.f kj14 t693 t697).bind fun t716 => (if t716 = true then (if t702 = 0 then (if t706 = 13 then (if t711 = 0 then (if t709 = (wrap64 (1 + t655)) then (if t710 = (wrap64 (t660 + 1)) then (if t714 = 10 then (some (t713 == 0)) else (some false)) else (some false)) else (some false)) else (some false)) else (some false)) else (some false)) else (some false))) else (some false)) else (some false)) else (some false)) = some true := by rw [if_pos rfl] at H; exact H
                          clear H
                          have H := H1
                          clear H1
                          by_cases c69 : t690 = 13
                          · rw [if_pos c69] at H
                            have c69b0 : (t690 == 13) = true := beq_iff_eq.mpr c69
                            have c69b1 : (t690 != 13) = false := bne_eq_false_iff_eq.mpr c69
                            clear c69
                            by_cases c70 : t694 = t698
                            · rw [if_pos c70] at H
                              have c70b0 : (t694 == t698) = true := beq_iff_eq.mpr c70
                              have c70b1 : (t694 != t698) = false := bne_eq_false_iff_eq.mpr c70
                              clear c70
                              by_cases c71 : t698 = 0
                              · rw [if_pos c71] at H
                                have c71b0 : (t698 == 0) = true := beq_iff_eq.mpr c71
                                have c71b1 : (t698 != 0) = false := bne_eq_false_iff_eq.mpr c71
                                clear c71
                                replace H := Option.bind_eq_some_iff.mp H
                                obtain ⟨t716, A720, H⟩ := H
                                replace H : (if t716 = true then (if t702 = 0 then (if t706 = 13 then (if t711 = 0 then (if t709 = (wrap64 (1 + t655)) then (if t710 = (wrap64 (t660 + 1)) then (if t714 = 10 then (some (t713 == 0)) else (some false)) else (some false)) else (some false)) else (some false)) else (some false)) else (some false)) else (some false)) = some true := H
                                have A72 := Aside0.mk A720
                                clear A720
                                by_cases c73 : t716 = true
                                · subst c73
                                  have H1 : (if t702 = 0 then (if t706 = 13 then (if t711 = 0 then (if t709 = (wrap64 (1 + t655)) then (if t710 = (wrap64 (t660 + 1)) then (if t714 = 10 then (some (t713 == 0)) else (some false)) else (some false)) else (some false)) else (some false)) else (some false)) else (some false)) = some true := by rw [if_pos rfl] at H; exact H
                                  clear H
                                  have H := H1
                                  clear H1
                                  by_cases c74 : t702 = 0
                                  · rw [if_pos c74] at H
                                    have c74b0 : (t702 == 0) = true := beq_iff_eq.mpr c74
                                    have c74b1 : (t702 != 0) = false := bne_eq_false_iff_eq.mpr c74
                                    clear c74
                                    by_cases c75 : t706 = 13
                                    · rw [if_pos c75] at H
                                      have c75b0 : (t706 == 13) = true := beq_iff_eq.mpr c75
                                      have c75b1 : (t706 != 13) = false := bne_eq_false_iff_eq.mpr c75
                                      clear c75
                                      by_cases c76 : t711 = 0
                                      · rw [if_pos c76] at H
                                        have c76b0 : (t711 == 0) = true := beq_iff_eq.mpr c76
                                        have c76b1 : (t711 != 0) = false := bne_eq_false_iff_eq.mpr c76
                                        clear c76
                                        by_cases c77 : t709 = (wrap64 (1 + t655))
                                        · rw [if_pos c77] at H
                                          have c77b0 : (t709 == (wrap64 (1 + t655))) = true := beq_iff_eq.mpr c77
                                          have c77b1 : (t709 != (wrap64 (1 + t655))) = false := bne_eq_false_iff_eq.mpr c77
                                          clear c77
                                          by_cases c78 : t710 = (wrap64 (t660 + 1))
                                          · rw [if_pos c78] at H
                                            have c78b0 : (t710 == (wrap64 (t660 + 1))) = true := beq_iff_eq.mpr c78
                                            have c78b1 : (t710 != (wrap64 (t660 + 1))) = false := bne_eq_false_iff_eq.mpr c78
                                            clear c78
                                            by_cases c79 : t714 = 10
                                            · rw [if_pos c79] at H
                                              have c79b0 : (t714 == 10) = true := beq_iff_eq.mpr c79
                                              have c79b1 : (t714 != 10) = false := bne_eq_false_iff_eq.mpr c79
                                              clear c79
                                              have cT_ := Option.some.inj H
                                              clear H
                                              go_wp2_with (first | ((with_reducible refine gate_callee (f := 29) rfl ?_); refine goesL_ (some 148) rfl rfl Try.func29 (by kernel_rfl) rfl #[.slice Ao18 t651.length co18, .string t654, .int .i64 t657, .int .i64 (wrap64 (1 + t655))] rfl gA ?_; (with_reducible refine (impl_SwapRef.calls kj14 _ _ t651 t654 t657 (wrap64 (1 + t655)) t681 t682 _ ?side1 ?side2 A56.out).mono ?_); (case side1 => repeat (first | exact (Kd.R_reads' HO_5.out).2.2 | (with_reducible refine Kd.C_alloc ?_ _) | (with_reducible refine Kd.C_drewN ?_ _) | (with_reducible refine Kd.C_drew ?_))); (case side2 => exact (Kd.R_reads' HO_5.out).2.1); rintro e w80 ⟨v683, rfl, ho0, hb⟩; refine ⟨_, rfl, ?_⟩; have n0_ := Aside0.mk (Kd.R_elder' (pR HO_5) (Kd.R_base ho0) hb); have n1_ := Aside0.mk (Kd.R_lower (Kd.R_new' ho0 (Kd.R_lt (pR HO_5))) (below_size (w := w) bW)); have n2_ := Aside0.mk (below_step (w := w) bW hb); clear HO_5; clear HB; have HO_5 := n0_; have HO684 := n1_; have HB := n2_; clear n0_ n1_ n2_; (try clear hb); (try clear hb2); (try clear hk); (try clear hi); (try clear ho0)) | ((with_reducible refine gate_callee (f := 30) rfl ?_); refine goesL_ (some 156) rfl rfl Try.func30 (by kernel_rfl) rfl #[.slice Ao18 t651.length co18, .string t654, .int .i64 t657, .int .i64 (wrap64 (1 + t655))] rfl gA ?_; (with_reducible refine (spec_SwapRef.calls kj14 _ _ t651 t654 t657 (wrap64 (1 + t655)) t685 t686 _ ?side1 ?side2 A57.out).mono ?_); (case side1 => repeat (first | exact (Kd.R_reads' HO_5.out).2.2 | (with_reducible refine Kd.C_alloc ?_ _) | (with_reducible refine Kd.C_drewN ?_ _) | (with_reducible refine Kd.C_drew ?_))); (case side2 => exact (Kd.R_reads' HO_5.out).2.1); rintro e w81 ⟨v687, rfl, ho0, hb⟩; refine ⟨_, rfl, ?_⟩; have n0_ := Aside0.mk (Kd.R_elder' (pR HO_5) (Kd.R_base ho0) hb); have n1_ := Aside0.mk (Kd.R_elder' (pR HO684) (Kd.R_base ho0) hb); have n2_ := Aside0.mk (Kd.R_lower (Kd.R_new' (Kd.R_new' ho0 (Kd.R_lt (pR HO_5))) (Kd.R_lt (pR HO684))) (below_size (w := w) bW)); have n3_ := Aside0.mk (below_step (w := w) bW hb); clear HO_5; clear HO684; clear HB; have HO_5 := n0_; have HO684 := n1_; have HO688 := n2_; have HB := n3_; clear n0_ n1_ n2_ n3_; (try clear hb); (try clear hb2); (try clear hk); (try clear hi); (try clear ho0); obtain ⟨Ao82, co82, eo82⟩ := Kd.R_slice HO684.out; subst eo82) | ((with_reducible refine gate_callee (f := 29) rfl ?_); refine goesL_ (some 164) rfl rfl Try.func29 (by kernel_rfl) rfl #[.slice Ao82 t681.length co82, .string t654, .int .i64 t657, .int .i64 (wrap64 (1 + t655))] rfl gA ?_; (with_reducible refine (impl_SwapRef.calls kj14 _ _ t681 t654 t657 (wrap64 (1 + t655)) t689 t690 _ ?side1 ?side2 A58.out).mono ?_); (case side1 => repeat (first | exact (Kd.R_reads' HO684.out).2.2 | (with_reducible refine Kd.C_alloc ?_ _) | (with_reducible refine Kd.C_drewN ?_ _) | (with_reducible refine Kd.C_drew ?_))); (case side2 => exact (Kd.R_reads' HO684.out).2.1); rintro e w83 ⟨v691, rfl, ho0, hb⟩; refine ⟨_, rfl, ?_⟩; have n0_ := Aside0.mk (Kd.R_elder' (pR HO_5) (Kd.R_base ho0) hb); have n1_ := Aside0.mk (Kd.R_elder' (pR HO684) (Kd.R_base ho0) hb); have n2_ := Aside0.mk (Kd.R_elder' (pR HO688) (Kd.R_base ho0) hb); have n3_ := Aside0.mk (Kd.R_lower (Kd.R_new' (Kd.R_new' (Kd.R_new' ho0 (Kd.R_lt (pR HO_5))) (Kd.R_lt (pR HO684))) (Kd.R_lt (pR HO688))) (below_size (w := w) bW)); have n4_ := Aside0.mk (below_step (w := w) bW hb); clear HO_5; clear HO684; clear HO688; clear HB; have HO_5 := n0_; have HO684 := n1_; have HO688 := n2_; have HO692 := n3_; have HB := n4_; clear n0_ n1_ n2_ n3_ n4_; (try clear hb); (try clear hb2); (try clear hk); (try clear hi); (try clear ho0)) | ((with_reducible refine gate_callee (f := 31) rfl ?_); refine goesL_ (some 170) rfl rfl Try.func31 (by kernel_rfl) rfl #[.slice Ao18 t651.length co18, .string t654] rfl gA ?_; (with_reducible refine (impl_DeleteRef.calls kj14 _ _ t651 t654 t693 t694 _ ?side1 ?side2 A59.out).mono ?_); (case side1 => repeat (first | exact (Kd.R_reads' HO_5.out).2.2 | (with_reducible refine Kd.C_alloc ?_ _) | (with_reducible refine Kd.C_drewN ?_ _) | (with_reducible refine Kd.C_drew ?_))); (case side2 => exact (Kd.R_reads' HO_5.out).2.1); rintro e w84 ⟨v695, rfl, ho0, hb⟩; refine ⟨_, rfl, ?_⟩; have n0_ := Aside0.mk (Kd.R_elder' (pR HO_5) (Kd.R_base ho0) hb); have n1_ := Aside0.mk (Kd.R_elder' (pR HO684) (Kd.R_base ho0) hb); have n2_ := Aside0.mk (Kd.R_elder' (pR HO688) (Kd.R_base ho0) hb); have n3_ := Aside0.mk (Kd.R_elder' (pR HO692) (Kd.R_base ho0) hb); have n4_ := Aside0.mk (Kd.R_lower (Kd.R_new' (Kd.R_new' (Kd.R_new' (Kd.R_new' ho0 (Kd.R_lt (pR HO_5))) (Kd.R_lt (pR HO684))) (Kd.R_lt (pR HO688))) (Kd.R_lt (pR HO692))) (below_size (w := w) bW)); have n5_ := Aside0.mk (below_step (w := w) bW hb); clear HO_5; clear HO684; clear HO688; clear HO692; clear HB; have HO_5 := n0_; have HO684 := n1_; have HO688 := n2_; have HO692 := n3_; have HO696 := n4_; have HB := n5_; clear n0_ n1_ n2_ n3_ n4_ n5_; (try clear hb); (try clear hb2); (try clear hk); (try clear hi); (try clear ho0)) | ((with_reducible refine gate_callee (f := 32) rfl ?_); refine goesL_ (some 176) rfl rfl Try.func32 (by kernel_rfl) rfl #[.slice Ao18 t651.length co18, .string t654] rfl gA ?_; (with_reducible refine (spec_DeleteRef.calls kj14 _ _ t651 t654 t697 t698 _ ?side1 ?side2 A60.out).mono ?_); (case side1 => repeat (first | exact (Kd.R_reads' HO_5.out).2.2 | (with_reducible refine Kd.C_alloc ?_ _) | (with_reducible refine Kd.C_drewN ?_ _) | (with_reducible refine Kd.C_drew ?_))); (case side2 => exact (Kd.R_reads' HO_5.out).2.1); rintro e w85 ⟨v699, rfl, ho0, hb⟩; refine ⟨_, rfl, ?_⟩; have n0_ := Aside0.mk (Kd.R_elder' (pR HO_5) (Kd.R_base ho0) hb); have n1_ := Aside0.mk (Kd.R_elder' (pR HO684) (Kd.R_base ho0) hb); have n2_ := Aside0.mk (Kd.R_elder' (pR HO688) (Kd.R_base ho0) hb); have n3_ := Aside0.mk (Kd.R_elder' (pR HO692) (Kd.R_base ho0) hb); have n4_ := Aside0.mk (Kd.R_elder' (pR HO696) (Kd.R_base ho0) hb); have n5_ := Aside0.mk (Kd.R_lower (Kd.R_new' (Kd.R_new' (Kd.R_new' (Kd.R_new' (Kd.R_new' ho0 (Kd.R_lt (pR HO_5))) (Kd.R_lt (pR HO684))) (Kd.R_lt (pR HO688))) (Kd.R_lt (pR HO692))) (Kd.R_lt (pR HO696))) (below_size (w := w) bW)); have n6_ := Aside0.mk (below_step (w := w) bW hb); clear HO_5; clear HO684; clear HO688; clear HO692; clear HO696; clear HB; have HO_5 := n0_; have HO684 := n1_; have HO688 := n2_; have HO692 := n3_; have HO696 := n4_; have HO700 := n5_; have HB := n6_; clear n0_ n1_ n2_ n3_ n4_ n5_ n6_; (try clear hb); (try clear hb2); (try clear hk); (try clear hi); (try clear ho0); obtain ⟨Ao86, co86, eo86⟩ := Kd.R_slice HO696.out; subst eo86) | ((with_reducible refine gate_callee (f := 24) rfl ?_); refine goesL_ (some 183) rfl rfl Try.func24 (by kernel_rfl) rfl #[.slice Ao86 t693.length co86, .string t654, .int .i64 t659] rfl gA ?_; (with_reducible refine (impl_CreateRef.calls kj14 _ _ t693 t654 t659 t701 t702 _ ?side1 ?side2 A61.out).mono ?_); (case side1 => repeat (first | exact (Kd.R_reads' HO696.out).2.2 | (with_reducible refine Kd.C_alloc ?_ _) | (with_reducible refine Kd.C_drewN ?_ _) | (with_reducible refine Kd.C_drew ?_))); (case side2 => exact (Kd.R_reads' HO696.out).2.1); rintro e w87 ⟨v703, rfl, ho0, hb⟩; refine ⟨_, rfl, ?_⟩; have n0_ := Aside0.mk (Kd.R_elder' (pR HO_5) (Kd.R_base ho0) hb); have n1_ := Aside0.mk (Kd.R_elder' (pR HO684) (Kd.R_base ho0) hb); have n2_ := Aside0.mk (Kd.R_elder' (pR HO688) (Kd.R_base ho0) hb); have n3_ := Aside0.mk (Kd.R_elder' (pR HO692) (Kd.R_base ho0) hb); have n4_ := Aside0.mk (Kd.R_elder' (pR HO696) (Kd.R_base ho0) hb); have n5_ := Aside0.mk (Kd.R_elder' (pR HO700) (Kd.R_base ho0) hb); have n6_ := Aside0.mk (Kd.R_lower (Kd.R_new' (Kd.R_new' (Kd.R_new' (Kd.R_new' (Kd.R_new' (Kd.R_new' ho0 (Kd.R_lt (pR HO_5))) (Kd.R_lt (pR HO684))) (Kd.R_lt (pR HO688))) (Kd.R_lt (pR HO692))) (Kd.R_lt (pR HO696))) (Kd.R_lt (pR HO700))) (below_size (w := w) bW)); have n7_ := Aside0.mk (below_step (w := w) bW hb); clear HO_5; clear HO684; clear HO688; clear HO692; clear HO696; clear HO700; clear HB; have HO_5 := n0_; have HO684 := n1_; have HO688 := n2_; have HO692 := n3_; have HO696 := n4_; have HO700 := n5_; have HO704 := n6_; have HB := n7_; clear n0_ n1_ n2_ n3_ n4_ n5_ n6_ n7_; (try clear hb); (try clear hb2); (try clear hk); (try clear hi); (try clear ho0); obtain ⟨Ao88, co88, eo88⟩ := Kd.R_slice HO704.out; subst eo88) | ((with_reducible refine gate_callee (f := 29) rfl ?_); refine goesL_ (some 191) rfl rfl Try.func29 (by kernel_rfl) rfl #[.slice Ao88 t701.length co88, .string t654, .int .i64 t657, .int .i64 (wrap64 (1 + t655))] rfl gA ?_; (with_reducible refine (impl_SwapRef.calls kj14 _ _ t701 t654 t657 (wrap64 (1 + t655)) t705 t706 _ ?side1 ?side2 A62.out).mono ?_); (case side1 => repeat (first | exact (Kd.R_reads' HO704.out).2.2 | (with_reducible refine Kd.C_alloc ?_ _) | (with_reducible refine Kd.C_drewN ?_ _) | (with_reducible refine Kd.C_drew ?_))); (case side2 => exact (Kd.R_reads' HO704.out).2.1); rintro e w89 ⟨v707, rfl, ho0, hb⟩; refine ⟨_, rfl, ?_⟩; have n0_ := Aside0.mk (Kd.R_elder' (pR HO_5) (Kd.R_base ho0) hb); have n1_ := Aside0.mk (Kd.R_elder' (pR HO684) (Kd.R_base ho0) hb); have n2_ := Aside0.mk (Kd.R_elder' (pR HO688) (Kd.R_base ho0) hb); have n3_ := Aside0.mk (Kd.R_elder' (pR HO692) (Kd.R_base ho0) hb); have n4_ := Aside0.mk (Kd.R_elder' (pR HO696) (Kd.R_base ho0) hb); have n5_ := Aside0.mk (Kd.R_elder' (pR HO700) (Kd.R_base ho0) hb); have n6_ := Aside0.mk (Kd.R_elder' (pR HO704) (Kd.R_base ho0) hb); have n7_ := Aside0.mk (Kd.R_lower (Kd.R_new' (Kd.R_new' (Kd.R_new' (Kd.R_new' (Kd.R_new' (Kd.R_new' (Kd.R_new' ho0 (Kd.R_lt (pR HO_5))) (Kd.R_lt (pR HO684))) (Kd.R_lt (pR HO688))) (Kd.R_lt (pR HO692))) (Kd.R_lt (pR HO696))) (Kd.R_lt (pR HO700))) (Kd.R_lt (pR HO704))) (below_size (w := w) bW)); have n8_ := Aside0.mk (below_step (w := w) bW hb); clear HO_5; clear HO684; clear HO688; clear HO692; clear HO696; clear HO700; clear HO704; clear HB; have HO_5 := n0_; have HO684 := n1_; have HO688 := n2_; have HO692 := n3_; have HO696 := n4_; have HO700 := n5_; have HO704 := n6_; have HO708 := n7_; have HB := n8_; clear n0_ n1_ n2_ n3_ n4_ n5_ n6_ n7_ n8_; (try clear hb); (try clear hb2); (try clear hk); (try clear hi); (try clear ho0)) | ((with_reducible refine gate_callee (f := 20) rfl ?_); refine goesL_ (some 197) rfl rfl Try.func20 (by kernel_rfl) rfl #[.slice Ao82 t681.length co82, .string t654] rfl gA ?_; (with_reducible refine (impl_LoadRef.calls kj14 _ _ t681 t654 t709 t710 t711 _ ?side1 ?side2 A63.out).mono ?_); (case side1 => repeat (first | exact (Kd.R_reads' HO684.out).2.2 | (with_reducible refine Kd.C_alloc ?_ _) | (with_reducible refine Kd.C_drewN ?_ _) | (with_reducible refine Kd.C_drew ?_))); (case side2 => exact (Kd.R_reads' HO684.out).2.1); rintro e w90 ⟨rfl, hb⟩; refine ⟨_, rfl, ?_⟩; have n0_ := Aside0.mk (Kd.R_below (pR HO_5) hb); have n1_ := Aside0.mk (Kd.R_below (pR HO684) hb); have n2_ := Aside0.mk (Kd.R_below (pR HO688) hb); have n3_ := Aside0.mk (Kd.R_below (pR HO692) hb); have n4_ := Aside0.mk (Kd.R_below (pR HO696) hb); have n5_ := Aside0.mk (Kd.R_below (pR HO700) hb); have n6_ := Aside0.mk (Kd.R_below (pR HO704) hb); have n7_ := Aside0.mk (Kd.R_below (pR HO708) hb); have n8_ := Aside0.mk (below_step (w := w) bW hb); clear HO_5; clear HO684; clear HO688; clear HO692; clear HO696; clear HO700; clear HO704; clear HO708; clear HB; have HO_5 := n0_; have HO684 := n1_; have HO688 := n2_; have HO692 := n3_; have HO696 := n4_; have HO700 := n5_; have HO704 := n6_; have HO708 := n7_; have HB := n8_; clear n0_ n1_ n2_ n3_ n4_ n5_ n6_ n7_ n8_; (try clear hb); (try clear hb2); (try clear hk); (try clear hi)) | ((with_reducible refine gate_callee (f := 20) rfl ?_); refine goesL_ (some 204) rfl rfl Try.func20 (by kernel_rfl) rfl #[.slice Ao86 t693.length co86, .string t654] rfl gA ?_; (with_reducible refine (impl_LoadRef.calls kj14 _ _ t693 t654 t712 t713 t714 _ ?side1 ?side2 A64.out).mono ?_); (case side1 => repeat (first | exact (Kd.R_reads' HO696.out).2.2 | (with_reducible refine Kd.C_alloc ?_ _) | (with_reducible refine Kd.C_drewN ?_ _) | (with_reducible refine Kd.C_drew ?_))); (case side2 => exact (Kd.R_reads' HO696.out).2.1); rintro e w91 ⟨rfl, hb⟩; refine ⟨_, rfl, ?_⟩; have n0_ := Aside0.mk (Kd.R_below (pR HO_5) hb); have n1_ := Aside0.mk (Kd.R_below (pR HO684) hb); have n2_ := Aside0.mk (Kd.R_below (pR HO688) hb); have n3_ := Aside0.mk (Kd.R_below (pR HO692) hb); have n4_ := Aside0.mk (Kd.R_below (pR HO696) hb); have n5_ := Aside0.mk (Kd.R_below (pR HO700) hb); have n6_ := Aside0.mk (Kd.R_below (pR HO704) hb); have n7_ := Aside0.mk (Kd.R_below (pR HO708) hb); have n8_ := Aside0.mk (below_step (w := w) bW hb); clear HO_5; clear HO684; clear HO688; clear HO692; clear HO696; clear HO700; clear HO704; clear HO708; clear HB; have HO_5 := n0_; have HO684 := n1_; have HO688 := n2_; have HO692 := n3_; have HO696 := n4_; have HO700 := n5_; have HO704 := n6_; have HO708 := n7_; have HB := n8_; clear n0_ n1_ n2_ n3_ n4_ n5_ n6_ n7_ n8_; (try clear hb); (try clear hb2); (try clear hk); (try clear hi); obtain ⟨Ao92, co92, eo92⟩ := Kd.R_slice HO688.out; subst eo92) | (go_at_call 27; (with_reducible refine (laws_sameRefs.calls kj14 _ _ t681 _ _ t685 true _ ?side1 ?side2 ?side3 ?side4 A67.out).mono ?_); (case side1 => repeat (first | exact (Kd.R_reads' HO684.out).2.2 | (with_reducible refine Kd.C_alloc ?_ _) | (with_reducible refine Kd.C_drewN ?_ _) | (with_reducible refine Kd.C_drew ?_))); (case side2 => exact (Kd.R_reads' HO684.out).2.1); (case side3 => repeat (first | exact (Kd.R_reads' HO688.out).2.2 | (with_reducible refine Kd.C_alloc ?_ _) | (with_reducible refine Kd.C_drewN ?_ _) | (with_reducible refine Kd.C_drew ?_))); (case side4 => exact (Kd.R_reads' HO688.out).2.1); rintro e w' ⟨rfl, ⟨nd, rfl⟩⟩; obtain ⟨Ao93, co93, eo93⟩ := Kd.R_slice HO700.out; subst eo93) | (go_at_call 27; (with_reducible refine (laws_sameRefs.calls kj14 _ _ t693 _ _ t697 true _ ?side1 ?side2 ?side3 ?side4 A72.out).mono ?_); (case side1 => repeat (first | exact (Kd.R_reads' HO696.out).2.2 | (with_reducible refine Kd.C_alloc ?_ _) | (with_reducible refine Kd.C_drewN ?_ _) | (with_reducible refine Kd.C_drew ?_))); (case side2 => exact (Kd.R_reads' HO696.out).2.1); (case side3 => repeat (first | exact (Kd.R_reads' HO700.out).2.2 | (with_reducible refine Kd.C_alloc ?_ _) | (with_reducible refine Kd.C_drewN ?_ _) | (with_reducible refine Kd.C_drew ?_))); (case side4 => exact (Kd.R_reads' HO700.out).2.1); rintro e w' ⟨rfl, ⟨nd, rfl⟩⟩))
                                              go_ret
                                              exact ⟨by first | rfl | rw [cT_] | (simp [errW_none, errW_some] <;> rfl) | (simp [*, errW_none, errW_some] <;> rfl), bW⟩
                                            · rw [if_neg c79] at H
                                              exact absurd H (by simp)
                                          · rw [if_neg c78] at H
                                            exact absurd H (by simp)
                                        · rw [if_neg c77] at H
                                          exact absurd H (by simp)
                                      · rw [if_neg c76] at H
                                        exact absurd H (by simp)
                                    · rw [if_neg c75] at H
                                      exact absurd H (by simp)
                                  · rw [if_neg c74] at H
                                    exact absurd H (by simp)
                                · replace c73 := Bool.eq_false_iff.mpr c73
                                  subst c73
                                  have H1 : (some false) = some true := by rw [if_neg (show ¬ (false = true) by decide)] at H; exact H
                                  exact absurd H1 (by simp)
                              · rw [if_neg c71] at H
                                exact absurd H (by simp)
                            · rw [if_neg c70] at H
                              exact absurd H (by simp)
                          · rw [if_neg c69] at H
                            exact absurd H (by simp)
                        · replace c68 := Bool.eq_false_iff.mpr c68
                          subst c68
                          have H1 : (some false) = some true := by rw [if_neg (show ¬ (false = true) by decide)] at H; exact H
                          exact absurd H1 (by simp)
                      · rw [if_neg c66] at H
                        exact absurd H (by simp)
                    · rw [if_neg c65] at H
                      exact absurd H (by simp)
                  · rw [if_neg c55] at H
                    have c55b0 : (t661 == 0) = false := beq_eq_false_iff_ne.mpr c55
                    have c55b1 : (t661 != 0) = true := bne_iff_ne.mpr c55
                    clear H
                    go_wp2
                    go_ret
                    exact ⟨rE, bW⟩
def laws_FnRefs.Pure : Prop := ∀ (l0 : List Int) (l1 : List Int), l0.length ≤ maxLen → l0.length * 1 ≤ 140737488351232 → (∀ x ∈ l0, (Lit.int .u8 x).wf = true) → l1.length ≤ maxLen → l1.length * 1 ≤ 140737488351232 → (∀ x ∈ l1, (Lit.int .u8 x).wf = true) → ∃ k, laws_FnRefs.f k l0 l1 = some true
theorem laws_FnRefs.walk (P : laws_FnRefs.Pure) (a0 : Option Addr) (len0 cap0 : Nat) (z0 : List Int) (a1 : Option Addr) (len1 cap1 : Nat) (z1 : List Int) (w : World) (w0 : (a0 = none ∧ len0 = 0 ∧ cap0 = 0 ∧ z0 = []) ∨ ∃ x, a0 = some x ∧ len0 ≤ cap0 ∧ cap0 ≤ maxLen ∧ z0.length = cap0 ∧ (∀ i, i < z0.length → w.cell? (x.add i) = some (.int .u8 (z0.getD i 0))) ∧ ∀ n ∈ z0, (Lit.int .u8 n).wf = true) (y0 : len0 * 1 ≤ 140737488351232) (w1 : (a1 = none ∧ len1 = 0 ∧ cap1 = 0 ∧ z1 = []) ∨ ∃ x, a1 = some x ∧ len1 ≤ cap1 ∧ cap1 ≤ maxLen ∧ z1.length = cap1 ∧ (∀ i, i < z1.length → w.cell? (x.add i) = some (.int .u8 (z1.getD i 0))) ∧ ∀ n ∈ z1, (Lit.int .u8 n).wf = true) (y1 : len1 * 1 ≤ 140737488351232) :
    Calls Try.prog 4 #[.slice a0 len0 cap0, .slice a1 len1 cap1] w fun e w' => e = .returned (.bool true) ∧ Below w.heap.size w w' := by
  obtain ⟨l0, rfl, hr0, hm0, hw0, hc0⟩ := ReadsInt.ofRowC w0
  obtain ⟨l1, rfl, hr1, hm1, hw1, hc1⟩ := ReadsInt.ofRowC w1
  obtain ⟨k, h⟩ := P l0 l1 hm0 y0 hw0 hm1 y1 hw1
  refine (laws_FnRefs.calls k _ _ l0 _ _ l1 w (Kd.C_of_reads (d := (0 : Int)) (h1 := fun _ => rfl) hr0) hc0 (Kd.C_of_reads (d := (0 : Int)) (h1 := fun _ => rfl) hr1) hc1 h).mono ?_
  rintro e w' ⟨rfl, hd⟩
  exact ⟨rfl, hd⟩
end Go.Proofs.Ytkmjmgkpcomldaa.Q
end

section
namespace Go.Proofs.Ytkmjmgkpcomldaa.Q
open Go.RowKit Go.Proofs.YtkmjmgkpcomldaaW.PrintWords Go.Proofs.YtkmjmgkpcomldaaW.PrintLast
set_option linter.unusedVariables false
theorem Ev.shift {α : Type} {g h : Nat → Option α} {r : α} {c d : Nat} (e : ∀ k, g (k + c) = h (k + d)) (k : Ev h r) : Ev g r := by
  obtain ⟨K, hK⟩ := k
  refine ⟨K + c, fun n hn => ?_⟩
  obtain ⟨m, rfl⟩ : ∃ m, n = m + c := ⟨n - c, by omega⟩
  rw [e]
  exact hK _ (by omega)
theorem Ev.at_ {α : Type} {g : Nat → Option α} {r : α} {c : Nat} (e : ∀ k, g (k + c) = some r) : Ev g r := by
  refine ⟨c, fun n hn => ?_⟩
  obtain ⟨m, rfl⟩ : ∃ m, n = m + c := ⟨n - c, by omega⟩
  exact e m
theorem Ev.succ {α : Type} {g : Nat → Option α} {r : α} (h : Ev (fun k => g (k + 1)) r) : Ev g r := Ev.step (fun _ => rfl) h
theorem ev_all_loop {L : Nat → Int → Option Bool} {n : Nat} {p : Nat → Bool} {fin : Bool}
    (step : ∀ i : Nat, i < n → (∀ j, j < i → p j = true) → p i = true → ∃ c d, ∀ k, L (k + c) (i : Int) = L (k + d) ((i + 1 : Nat) : Int))
    (stop : ∀ i : Nat, i < n → (∀ j, j < i → p j = true) → p i = false → ∃ c, ∀ k, L (k + c) (i : Int) = some false)
    (done : Ev (fun k => L k (n : Int)) fin) : Ev (fun k => L k 0) (allR p n && fin) := by
  have key : ∀ d (i : Nat), i + d = n → (∀ j, j < i → p j = true) → Ev (fun k => L k (i : Int)) (allR p n && fin) := by
    intro d
    induction d with
    | zero =>
      intro i hi hp
      obtain rfl : i = n := by omega
      rw [allR_true hp, Bool.true_and]
      exact done
    | succ d ih =>
      intro i hi hp
      cases h : p i with
      | true =>
        obtain ⟨c, d', e⟩ := step i (by omega) hp h
        refine Ev.shift e (ih (i + 1) (by omega) (fun j hj => ?_))
        rcases Nat.lt_or_eq_of_le (Nat.le_of_lt_succ hj) with h1 | h1
        · exact hp j h1
        · rw [h1]; exact h
      | false =>
        obtain ⟨c, e⟩ := stop i (by omega) hp h
        rw [allR_false (by omega) h, Bool.false_and]
        exact Ev.at_ e
  exact key n 0 (by omega) (fun j hj => absurd hj (Nat.not_lt_zero _))
theorem ev_all_loop2 {L : Nat → Int → Option Bool} {n : Nat} {p : Nat → Bool} {fin : Bool} (m : Nat)
    (step : ∀ i : Nat, m ≤ i → i < n → (∀ j, j < i → p j = true) → p i = true → ∀ r, Ev (fun k => L k ((i + 1 : Nat) : Int)) r → Ev (fun k => L k (i : Int)) r)
    (stop : ∀ i : Nat, m ≤ i → i < n → (∀ j, j < i → p j = true) → p i = false → Ev (fun k => L k (i : Int)) false)
    (done : Ev (fun k => L k (n : Int)) fin) (hm : m ≤ n) (hpm : ∀ j, j < m → p j = true) : Ev (fun k => L k (m : Int)) (allR p n && fin) := by
  have key : ∀ d (i : Nat), m ≤ i → i + d = n → (∀ j, j < i → p j = true) → Ev (fun k => L k (i : Int)) (allR p n && fin) := by
    intro d
    induction d with
    | zero =>
      intro i _ hi hp
      obtain rfl : i = n := by omega
      rw [allR_true hp, Bool.true_and]
      exact done
    | succ d ih =>
      intro i hmi hi hp
      cases h : p i with
      | true =>
        refine step i hmi (by omega) hp h _ (ih (i + 1) (by omega) (by omega) (fun j hj => ?_))
        rcases Nat.lt_or_eq_of_le (Nat.le_of_lt_succ hj) with h1 | h1
        · exact hp j h1
        · rw [h1]; exact h
      | false =>
        rw [allR_false (by omega) h, Bool.false_and]
        exact stop i hmi (by omega) hp h
  exact key (n - m) m (Nat.le_refl _) (by omega) hpm
theorem ev_idx_loop {α : Type} {L : Nat → Int → Option Int} {l : List α} {q : α → Bool}
    (step : ∀ (i : Nat) (hi : i < l.length), q l[i] = false → ∀ k, L (k + 1) (i : Int) = L k ((i + 1 : Nat) : Int))
    (stop : ∀ (i : Nat) (hi : i < l.length), q l[i] = true → ∀ k, L (k + 1) (i : Int) = some (i : Int))
    (done : ∀ k, L (k + 1) (l.length : Int) = some (-1)) : Ev (fun k => L k 0) (idxI q l) := by
  have key : ∀ d (i : Nat), i + d = l.length → (∀ j (hj : j < l.length), j < i → q l[j] = false) → Ev (fun k => L k (i : Int)) (idxI q l) := by
    intro d
    induction d with
    | zero =>
      intro i hi hp
      obtain rfl : i = l.length := by omega
      rw [idxI_none (fun j hj => hp j hj hj)]
      exact Ev.at_ (c := 1) done
    | succ d ih =>
      intro i hi hp
      cases h : q (l[i]'(by omega)) with
      | false =>
        refine Ev.step (step i (by omega) h) (ih (i + 1) (by omega) (fun j hj h2 => ?_))
        rcases Nat.lt_or_eq_of_le (Nat.le_of_lt_succ h2) with h1 | h1
        · exact hp j hj h1
        · subst h1; exact h
      | true =>
        rw [idxI_some (by omega) (fun j hj => hp j (by omega) hj) h]
        exact Ev.at_ (c := 1) (stop i (by omega) h)
  exact key l.length 0 (by omega) (fun j _ hj => absurd hj (Nat.not_lt_zero _))
theorem all_allR {α : Type} (q : α → Bool) (z : α) (l : List α) : l.all q = allR (fun j => q (l.getD j z)) l.length := by
  rw [Bool.eq_iff_iff, List.all_eq_true, allR_iff]
  constructor
  · intro h j hj
    rw [List.getD_eq_getElem?_getD, List.getElem?_eq_getElem hj]
    exact h _ (List.getElem_mem hj)
  · intro h x hx
    obtain ⟨j, hj, rfl⟩ := List.mem_iff_getElem.mp hx
    have := h j hj
    rwa [List.getD_eq_getElem?_getD, List.getElem?_eq_getElem hj] at this
theorem allR_and (p q : Nat → Bool) (n : Nat) : allR (fun j => p j && q j) n = (allR p n && allR q n) := by
  rw [Bool.eq_iff_iff, Bool.and_eq_true, allR_iff, allR_iff, allR_iff]
  simp only [Bool.and_eq_true]
  exact ⟨fun h => ⟨fun j hj => (h j hj).1, fun j hj => (h j hj).2⟩, fun h j hj => ⟨h.1 j hj, h.2 j hj⟩⟩
theorem wrap_i {i : Nat} (h : i < 4611686018427387904) : wrap64 ((i : Int) + 1) = ((i + 1 : Nat) : Int) := by unfold wrap64; omega
end Go.Proofs.Ytkmjmgkpcomldaa.Q
end

section
namespace Go.Proofs.Ytkmjmgkpcomldaa.Q
open Go.RowKit Go.Proofs.YtkmjmgkpcomldaaW.PrintWords Go.Proofs.YtkmjmgkpcomldaaW.PrintLast
theorem l00Word_ev (s : ByteArray) : Ev (fun k => spec_l00Word.f k s) (nameB s) := Ev.of (fun k => spec_l00Word.mono s k) (l00Word_f s)
theorem l01In_is (a b c : Int) : spec_l01In.f a b c = some (inB a b c) := by
  unfold spec_l01In.f inB
  by_cases h : b ≤ a <;> simp [h]
end Go.Proofs.Ytkmjmgkpcomldaa.Q
end

section
namespace Go.Proofs.Ytkmjmgkpcomldaa.Q
open Go.RowKit Go.Proofs.YtkmjmgkpcomldaaW.PrintWords Go.Proofs.YtkmjmgkpcomldaaW.PrintLast
set_option linter.unusedVariables false
set_option linter.unusedSimpArgs false
theorem rdRef {l : List S79} {i : Nat} (h : i < l.length) : rd_T79 l (i : Int) = l[i] := by
  simp [rd_T79, List.getD_eq_getElem?_getD, List.getElem?_eq_getElem h]
theorem l04At_ev (l : List S79) (n : ByteArray) (hlen : l.length ≤ 1048576) : Ev (fun k => spec_l04At.f k l n) (placeI l n) := by
  refine ev_idx_loop (L := fun k i => spec_l04At.l0 k l n i) (q := isNm n) ?_ ?_ ?_
  · intro i hi hq k
    have hq2 : ¬ (l[i].f0.toList = n.toList) := by simpa [isNm] using hq
    have c1 : (i : Int) < (l.length : Int) := by omega
    simp only [spec_l04At.l0, rdRef hi, c1, hq2, if_true, if_false, Int.natCast_nonneg, wrap_i (show i < 4611686018427387904 by omega)]
  · intro i hi hq k
    have hq2 : l[i].f0.toList = n.toList := by simpa [isNm] using hq
    have c1 : (i : Int) < (l.length : Int) := by omega
    simp only [spec_l04At.l0, rdRef hi, c1, hq2, if_true, Int.natCast_nonneg]
  · intro k
    simp only [spec_l04At.l0]
    rw [if_neg (by omega)]
theorem placeI_self {l : List S79} {i : Nat} (hi : i < l.length) : (placeI l l[i].f0 = (i : Int)) ↔ placeI (l.take i) l[i].f0 < 0 := by
  have hself : isNm l[i].f0 l[i] = true := by simp [isNm]
  have e : l = l.take i ++ l[i] :: l.drop (i + 1) := by rw [← List.drop_eq_getElem_cons hi, List.take_append_drop]
  cases h : (l.take i).findIdx? (isNm l[i].f0) with
  | none =>
    have h1 : placeI (l.take i) l[i].f0 = -1 := by unfold placeI idxI; rw [h]
    have h0 := List.findIdx?_eq_none_iff.mp h
    have h2 : placeI l l[i].f0 = (i : Int) := idxI_some hi (fun j hj => by
      have hm : l[j] ∈ l.take i := List.mem_take_iff_getElem.mpr ⟨j, by omega, rfl⟩
      simpa using h0 _ hm) hself
    rw [h1, h2]
    simp
  | some j =>
    obtain ⟨hj, hp, hmin⟩ := List.findIdx?_eq_some_iff_getElem.mp h
    have hj2 : j < i := by rw [List.length_take] at hj; omega
    have h1 : placeI (l.take i) l[i].f0 = (j : Int) := by unfold placeI idxI; rw [h]
    have h2 : placeI l l[i].f0 = (j : Int) := idxI_some (by omega) (fun k hk => by
      have := hmin k hk
      simpa using this) (by simpa using hp)
    rw [h1, h2]
    constructor
    · intro h3
      omega
    · intro h3
      omega
def refAt (l : List S79) (i : Nat) : Bool := refB (rd_T79 l (i : Int)) && decide (placeI (l.take i) (rd_T79 l (i : Int)).f0 < 0)
theorem refsB_at (l : List S79) : refsB l = (decide (l.length ≤ 8) && allR (refAt l) l.length) := by
  unfold refsB refAt
  rw [allR_and, all_allR refB z79 l]
  rfl
theorem l04OK_ev (l : List S79) : Ev (fun k => spec_l04OK.f k l) (refsB l) := by
  by_cases h8 : l.length ≤ 8
  · have e : refsB l = (allR (refAt l) l.length && true) := by rw [refsB_at, decide_eq_true h8, Bool.true_and, Bool.and_true]
    rw [e]
    refine Ev.congr (f := fun k => spec_l04OK.l0 k l ((0 : Nat) : Int)) (fun k => by unfold spec_l04OK.f; rw [if_neg (by omega)]; rfl) ?_
    refine ev_all_loop2 (L := fun k i => spec_l04OK.l0 k l i) (p := refAt l) 0 ?_ ?_ (Ev.step (f := fun _ => some true) (fun k => by simp only [spec_l04OK.l0]; rw [if_neg (by omega)]) (Ev.now _)) (Nat.zero_le _) (fun j hj => absurd hj (Nat.not_lt_zero _))
    · intro i _ hi _ hp r hr
      have c1 : (i : Int) < (l.length : Int) := by omega
      have hw := wrap_i (show i < 4611686018427387904 by omega)
      unfold refAt at hp
      rw [rdRef hi] at hp
      simp only [Bool.and_eq_true, decide_eq_true_eq, refB] at hp
      obtain ⟨⟨⟨h1, h2⟩, h3⟩, h4⟩ := hp
      have h4' := (placeI_self hi).mpr h4
      refine Ev.succ (g := fun k => spec_l04OK.l0 k l (i : Int)) ?_
      simp only [spec_l04OK.l0, rdRef hi, c1, Int.natCast_nonneg, if_true]
      refine Ev.bind (h1 ▸ l00Word_ev _) ?_
      simp only [if_true, l01In_is, h2, Option.bind_some]
      refine Ev.bind (h4' ▸ l04At_ev l l[i].f0 (by omega)) ?_
      simp only [if_true, hw]
      cases h5 : l[i].f3 with
      | true =>
        rw [h5] at h3
        simp only [if_true, beq_iff_eq] at h3
        simp only [h3, if_true]
        exact hr
      | false =>
        rw [h5] at h3
        simp only [Bool.false_eq_true, if_false] at h3
        simp only [Bool.false_eq_true, if_false, h3, Option.bind_some, if_true]
        exact hr
    · intro i _ hi _ hp
      have c1 : (i : Int) < (l.length : Int) := by omega
      unfold refAt at hp
      rw [rdRef hi] at hp
      refine Ev.succ (g := fun k => spec_l04OK.l0 k l (i : Int)) ?_
      simp only [spec_l04OK.l0, rdRef hi, c1, Int.natCast_nonneg, if_true]
      refine Ev.bind (l00Word_ev _) ?_
      cases h1 : nameB l[i].f0 with
      | false => simp only [Bool.false_eq_true, if_false]; exact Ev.now _
      | true =>
        simp only [if_true, l01In_is, Option.bind_some]
        cases h2 : inB l[i].f2 1 1000000 with
        | false => simp only [Bool.false_eq_true, if_false]; exact Ev.now _
        | true =>
          simp only [if_true]
          refine Ev.bind (l04At_ev l l[i].f0 (by omega)) ?_
          by_cases h4 : placeI l l[i].f0 = (i : Int)
          · have h4' := (placeI_self hi).mp h4
            simp only [refB, h1, h2, Bool.true_and, decide_eq_true h4', Bool.and_true] at hp
            simp only [h4, if_true]
            cases h5 : l[i].f3 with
            | true =>
              rw [h5] at hp
              simp only [if_true, beq_eq_false_iff_ne] at hp
              simp only [if_true, hp, if_false]
              exact Ev.now _
            | false =>
              rw [h5] at hp
              simp only [Bool.false_eq_true, if_false] at hp
              simp only [Bool.false_eq_true, if_false, hp]
              exact Ev.now _
          · simp only [h4, if_false]
            exact Ev.now _
  · have e : refsB l = false := by unfold refsB; rw [decide_eq_false h8, Bool.false_and]
    rw [e]
    exact Ev.congr (f := fun _ => some false) (fun k => by unfold spec_l04OK.f; rw [if_pos (by omega)]) (Ev.now _)
theorem refsOK_ev (l : List S79) : Ev (fun k => impl_RefsOK.f k l) (refsB l) := by
  by_cases h8 : l.length ≤ 8
  · have n8 : ¬ ((l.length : Int) > 8) := by omega
    cases ha : l.all refB with
    | false =>
      have e : refsB l = false := by unfold refsB; rw [ha, Bool.false_and, Bool.and_false]
      rw [e]
      refine Ev.at_ (c := 1) (fun k => ?_)
      simp only [impl_RefsOK.f, n8, if_false, areAllRef_isRef.f, ha, Option.bind_some, impl_RefsOK.j0, Bool.not_false, if_true]
    | true =>
      have e : refsB l = (allR (fun j => decide (placeI (l.take j) (rd_T79 l (j : Int)).f0 < 0)) l.length && true) := by unfold refsB; rw [decide_eq_true h8, ha, Bool.true_and, Bool.true_and, Bool.and_true]
      rw [e]
      refine Ev.step (f := fun k => impl_RefsOK.l0 k l l (l.length : Int) 0) (fun k => ?_) ?_
      · simp only [impl_RefsOK.f, n8, if_false, areAllRef_isRef.f, ha, Option.bind_some, impl_RefsOK.j0, Bool.not_true, Bool.false_eq_true]
      · refine ev_all_loop (L := fun k i => impl_RefsOK.l0 k l l (l.length : Int) i) ?_ ?_ ?_
        · intro i hi _ hp
          refine ⟨1, 0, fun k => ?_⟩
          have c1 : (i : Int) < (l.length : Int) := by omega
          have c2 : (i : Int) ≤ (l.length : Int) := by omega
          have c3 : ¬ (placeI (l.take i) (rd_T79 l (i : Int)).f0 ≥ 0) := by simp only [decide_eq_true_eq] at hp; omega
          simp only [impl_RefsOK.l0, c1, c2, Int.natCast_nonneg, if_true, impl_place.f, Option.bind_some, Int.toNat_natCast, c3, if_false, wrap_i (show i < 4611686018427387904 by omega), Nat.add_zero]
        · intro i hi _ hp
          refine ⟨1, fun k => ?_⟩
          have c1 : (i : Int) < (l.length : Int) := by omega
          have c2 : (i : Int) ≤ (l.length : Int) := by omega
          have c3 : placeI (l.take i) (rd_T79 l (i : Int)).f0 ≥ 0 := by simp only [decide_eq_false_iff_not] at hp; omega
          simp only [impl_RefsOK.l0, c1, c2, Int.natCast_nonneg, if_true, impl_place.f, Option.bind_some, Int.toNat_natCast, c3]
        · refine Ev.at_ (c := 1) (fun k => ?_)
          simp only [impl_RefsOK.l0]
          rw [if_neg (by omega)]
  · have e : refsB l = false := by unfold refsB; rw [decide_eq_false h8, Bool.false_and]
    rw [e]
    refine Ev.at_ (c := 1) (fun k => ?_)
    unfold impl_RefsOK.f
    rw [if_pos (by omega)]
    simp only [impl_RefsOK.j0, if_true]
end Go.Proofs.Ytkmjmgkpcomldaa.Q
end

section
namespace Go.Proofs.Ytkmjmgkpcomldaa.Q
open Go.RowKit Go.Proofs.YtkmjmgkpcomldaaW.PrintWords Go.Proofs.YtkmjmgkpcomldaaW.PrintLast
set_option linter.unusedVariables false
set_option linter.unusedSimpArgs false
theorem refsB_len {l : List S79} (h : refsB l = true) : l.length ≤ 8 := by
  unfold refsB at h
  simp only [Bool.and_eq_true, decide_eq_true_eq] at h
  exact h.1
theorem placeI_cases (l : List S79) (n : ByteArray) : placeI l n = -1 ∨ ∃ (i : Nat) (hi : i < l.length), placeI l n = (i : Int) ∧ l[i].f0 = n := by
  unfold placeI idxI
  cases h : l.findIdx? (isNm n) with
  | none => exact .inl rfl
  | some i =>
    obtain ⟨hi, hp, _⟩ := List.findIdx?_eq_some_iff_getElem.mp h
    refine .inr ⟨i, hi, rfl, toList_inj ?_⟩
    simpa [isNm] using hp
theorem live_none {l : List S79} {n : ByteArray} (h : placeI l n = -1) : impl_live.f l n = some (-1, false) := by
  unfold impl_live.f impl_place.f
  rw [h]
  simp
theorem live_some {l : List S79} {n : ByteArray} {i : Nat} (hi : i < l.length) (h : placeI l n = (i : Int)) : impl_live.f l n = some ((i : Int), !l[i].f3) := by
  have c1 : (i : Int) < (l.length : Int) := by omega
  have c2 : (i : Int) ≥ 0 := by omega
  unfold impl_live.f impl_place.f
  simp only [h, Option.bind_some, c1, c2, Int.natCast_nonneg, if_true, rdRef hi]
theorem l04Live_none {l : List S79} {n : ByteArray} (hl : l.length ≤ 1048576) (h : placeI l n = -1) : Ev (fun k => spec_l04Live.f k l n) (-1) := by
  unfold spec_l04Live.f
  refine Ev.bind (h ▸ l04At_ev l n hl) ?_
  exact Ev.now _
theorem l04Live_some {l : List S79} {n : ByteArray} {i : Nat} (hl : l.length ≤ 1048576) (hi : i < l.length) (h : placeI l n = (i : Int)) : Ev (fun k => spec_l04Live.f k l n) (if l[i].f3 = true then -1 else (i : Int)) := by
  have c1 : (i : Int) < (l.length : Int) := by omega
  have c2 : (i : Int) ≥ 0 := by omega
  unfold spec_l04Live.f
  refine Ev.bind (h ▸ l04At_ev l n hl) ?_
  simp only [c1, c2, Int.natCast_nonneg, if_true, rdRef hi]
  cases l[i].f3
  · simp only [Bool.false_eq_true, if_false]; exact Ev.now _
  · simp only [if_true]; exact Ev.now _
end Go.Proofs.Ytkmjmgkpcomldaa.Q
end

section
namespace Go.Proofs.Ytkmjmgkpcomldaa.Q
open Go.RowKit Go.Proofs.YtkmjmgkpcomldaaW.PrintWords Go.Proofs.YtkmjmgkpcomldaaW.PrintLast
set_option linter.unusedVariables false
set_option linter.unusedSimpArgs false
def refBig (l : List S79) (n : ByteArray) : Prop := (l.length : Int) > 4096 ∨ (n.size : Int) > 65536
theorem refsCode_small {l : List S79} {n : ByteArray} (h : ¬ refBig l n) : Ev (fun k => impl_refsCode.f k l n) (if refsB l = true then 0 else 1) := by
  have h1 : (l.length : Int) ≤ 4096 := by unfold refBig at h; omega
  have h2 : (n.size : Int) ≤ 65536 := by unfold refBig at h; omega
  refine Ev.succ ?_
  unfold impl_refsCode.f impl_Ref_95.f impl_isText.f
  simp only [Option.bind_some, h1, h2, decide_true, if_true, impl_refsCode.j0, Bool.not_true, Bool.false_eq_true, if_false]
  refine Ev.bind (refsOK_ev l) ?_
  cases refsB l
  · simp only [Bool.false_eq_true, if_false]; exact Ev.now _
  · simp only [if_true]; exact Ev.now _
theorem l04Ask_small {l : List S79} {n : ByteArray} (h : ¬ refBig l n) : Ev (fun k => spec_l04Ask.f k l n) (if refsB l = true then 0 else 1) := by
  have h1 : ¬ (l.length : Int) > 4096 := by unfold refBig at h; omega
  have h2 : ¬ (n.size : Int) > 65536 := by unfold refBig at h; omega
  refine Ev.succ ?_
  unfold spec_l04Ask.f
  simp only [h1, h2, if_false, decide_false, spec_l04Ask.j0, Bool.false_eq_true]
  refine Ev.bind (l04OK_ev l) ?_
  cases refsB l
  · simp only [Bool.false_eq_true, if_false]; exact Ev.now _
  · simp only [if_true]; exact Ev.now _
theorem l04Set_is {l : List S79} {i : Nat} (hi : i < l.length) (hl : l.length ≤ 1048576) (h : Int) (g : Bool) : spec_l04Set.f l (i : Int) h g = some (l.set i ⟨l[i].f0, h, wrap64 (l[i].f2 + 1), g⟩) := by
  have c1 : (i : Int) < (l.length : Int) := by omega
  have c3 : l.length < 3518437208883 := by omega
  have rd1 : ∀ (v : S79), rd_T79 (l.set i v) (i : Int) = v := fun v => by rw [rdRef (by rw [List.length_set]; exact hi)]; simp
  unfold spec_l04Set.f
  simp only [Option.bind_some, List.length_nil, Nat.zero_add, c3, if_true, List.nil_append, Int.natCast_nonneg, c1, Int.toNat_natCast, rdRef hi, rd1, List.set_set]
theorem clone_is {l : List S79} (hl : l.length ≤ 1048576) : impl_Ref_70.f l = some l := by
  unfold impl_Ref_70.f
  rw [if_pos (by omega)]
theorem moved_is {l : List S79} {i : Nat} (hi : i < l.length) (hl : l.length ≤ 1048576) (h : Int) : impl_moved.f l (i : Int) h = some (if l[i].f2 = 1000000 then (l, 7) else (l.set i ⟨l[i].f0, h, wrap64 (l[i].f2 + 1), h == 0⟩, 0)) := by
  have c1 : (i : Int) < (l.length : Int) := by omega
  unfold impl_moved.f
  simp only [clone_is hl, Option.bind_some, Int.natCast_nonneg, c1, if_true, rdRef hi, Int.toNat_natCast]
  by_cases h1 : l[i].f2 = 1000000
  · simp only [h1, if_true]
  · simp only [h1, if_false]
end Go.Proofs.Ytkmjmgkpcomldaa.Q
end

section
namespace Go.Proofs.Ytkmjmgkpcomldaa.Q
open Go.RowKit Go.Proofs.YtkmjmgkpcomldaaW.PrintWords Go.Proofs.YtkmjmgkpcomldaaW.PrintLast Go.Proofs.YtkmjmgkpcomldaaW.PrintMore
attribute [local go_sem] max2_int min2_int max_two min_two max_three min_three max_four min_four   -- for this text's walks alone
set_option linter.unusedVariables false
set_option linter.unusedSimpArgs false
attribute [local go_sem] bin_leq bin_gtr bin_geq
def RiseP (l : List S35) : Prop := l.Pairwise (fun a b => sblt a.f0 b.f0 = true)
instance (l : List S35) : Decidable (RiseP l) := by unfold RiseP; infer_instance
end Go.Proofs.Ytkmjmgkpcomldaa.Q
end

section
namespace Go.Proofs.Ytkmjmgkpcomldaa.Q
open Go.RowKit Go.Proofs.YtkmjmgkpcomldaaW.PrintWords Go.Proofs.YtkmjmgkpcomldaaW.PrintLast
set_option linter.unusedVariables false
set_option linter.unusedSimpArgs false
theorem wid {x : Int} (h0 : -9223372036854775808 ≤ x) (h1 : x ≤ 9223372036854775807) : wrap64 x = x := by unfold wrap64; omega
theorem tmod_in {x n : Int} (h0 : 0 ≤ x) (hn : 0 < n) : 0 ≤ Int.tmod x n ∧ Int.tmod x n < n := by
  rw [Int.tmod_eq_emod_of_nonneg h0]
  exact ⟨Int.emod_nonneg _ (by omega), Int.emod_lt_of_pos _ hn⟩
def bytesOK (l : List Int) : Prop := ∀ x, x ∈ l → 0 ≤ x ∧ x ≤ 255
theorem rd_in {l : List Int} (hl : bytesOK l) {a : Int} (h0 : 0 ≤ a) (h1 : a < (l.length : Int)) : 0 ≤ rd l a ∧ rd l a ≤ 255 := by
  have h2 : a.toNat < l.length := by omega
  have e : rd l a = l[a.toNat] := by
    unfold rd
    rw [List.getD_eq_getElem?_getD, List.getElem?_eq_getElem h2]
    rfl
  rw [e]
  exact hl _ (List.getElem_mem h2)
def seedOK (a s : Int) : Prop := 0 ≤ a ∧ a ≤ 1000000000 ∧ 0 ≤ s ∧ s < 2147483648
theorem byte_ev {l : List Int} (hl : bytesOK l) {a s : Int} (h : seedOK a s) : ∃ b s', spec_l00Src_byte.f l a s = some (b, a + 1, s') ∧ 0 ≤ b ∧ b ≤ 255 ∧ 0 ≤ s' ∧ s' < 2147483648 := by
  obtain ⟨h0, h1, h2, h3⟩ := h
  have w1 : wrap64 (a + 1) = a + 1 := wid (by omega) (by omega)
  have w2 : wrap64 (a + 1 - 1) = a := (wid (by omega) (by omega)).trans (by omega)
  unfold spec_l00Src_byte.f
  rw [w1, w2]
  by_cases c1 : a + 1 ≤ (l.length : Int)
  · have c2 : a < (l.length : Int) := by omega
    obtain ⟨g0, g1⟩ := rd_in hl h0 c2
    generalize rd l a = b at g0 g1
    have w3 : wrap64 b = b := wid (by omega) (by omega)
    have w4 : wrap64 (s * 31) = s * 31 := wid (by omega) (by omega)
    have w5 : wrap64 (s * 31 + b) = s * 31 + b := wid (by omega) (by omega)
    have w6 : wrap64 (s * 31 + b + 7) = s * 31 + b + 7 := wid (by omega) (by omega)
    rw [if_pos c1, if_pos h0, if_pos c2, w3, w4, w5, w6]
    obtain ⟨t0, t1⟩ := tmod_in (x := s * 31 + b + 7) (n := 2147483648) (by omega) (by decide)
    exact ⟨_, _, rfl, g0, g1, t0, t1⟩
  · rw [if_neg c1]
    have w4 : wrap64 (s * 1103515245) = s * 1103515245 := wid (by omega) (by omega)
    have w5 : wrap64 (s * 1103515245 + 12345) = s * 1103515245 + 12345 := wid (by omega) (by omega)
    by_cases c2 : a + 1 > 3000
    · rw [if_pos c2]
      exact ⟨_, _, rfl, by omega, by omega, h2, h3⟩
    · rw [if_neg c2, w4, w5]
      obtain ⟨t0, t1⟩ := tmod_in (x := s * 1103515245 + 12345) (n := 2147483648) (by omega) (by decide)
      generalize Int.tmod (s * 1103515245 + 12345) 2147483648 = q at t0 t1
      have d0 : Int.tdiv q 65536 = q / 65536 := Int.tdiv_eq_ediv_of_nonneg t0
      have w6 : wrap64 (q / 65536) = q / 65536 := wid (by omega) (by omega)
      rw [d0, w6]
      obtain ⟨u0, u1⟩ := tmod_in (x := q / 65536) (n := 256) (by omega) (by decide)
      exact ⟨_, _, rfl, u0, by omega, t0, t1⟩
theorem next_ev {l : List Int} (hl : bytesOK l) {a s : Int} (h : seedOK a s) (n : Int) (h1 : 1 ≤ n) (h2 : n ≤ 256) : ∃ v a' s', spec_l00Src_next.f l a s n = some (v, a', s') ∧ 0 ≤ v ∧ v < n ∧ a ≤ a' ∧ a' ≤ a + 1 ∧ 0 ≤ s' ∧ s' < 2147483648 := by
  unfold spec_l00Src_next.f
  by_cases c1 : n ≤ 1
  · rw [if_pos c1]
    exact ⟨0, a, s, rfl, by omega, by omega, by omega, by omega, h.2.2.1, h.2.2.2⟩
  · rw [if_neg c1, if_pos h2]
    obtain ⟨b, s', e, g0, g1, g2, g3⟩ := byte_ev hl h
    rw [e]
    simp only [Option.bind_some]
    rw [if_neg (by omega)]
    obtain ⟨t0, t1⟩ := tmod_in (x := b) (n := n) g0 (by omega)
    exact ⟨_, _, _, rfl, t0, t1, by omega, by omega, g2, g3⟩
theorem pick_ev {l : List Int} (hl : bytesOK l) {a s : Int} (h : seedOK a s) (ts : List ByteArray) (h1 : 1 ≤ ts.length) (h2 : ts.length ≤ 256) : ∃ t a' s', spec_l00Src_pick.f l a s ts = some (t, a', s') ∧ t ∈ ts ∧ a ≤ a' ∧ a' ≤ a + 1 ∧ 0 ≤ s' ∧ s' < 2147483648 := by
  unfold spec_l00Src_pick.f
  rw [if_neg (by omega)]
  obtain ⟨v, a', s', e, g0, g1, g2, g3, g4, g5⟩ := next_ev hl h (ts.length : Int) (by omega) (by omega)
  rw [e]
  simp only [Option.bind_some]
  rw [if_pos g0, if_pos g1]
  have hv : v.toNat < ts.length := by omega
  have er : rdOf ByteArray.empty ts v = ts[v.toNat] := by
    unfold rdOf
    rw [List.getD_eq_getElem?_getD, List.getElem?_eq_getElem hv]
    rfl
  refine ⟨_, _, _, rfl, ?_, g2, g3, g4, g5⟩
  rw [er]
  exact List.getElem_mem hv
theorem bytes_wf {l : List Int} (h : ∀ x ∈ l, (Lit.int .u8 x).wf = true) : bytesOK l := by
  intro x hx
  have h1 := h x hx
  simp only [Lit.wf, Bool.and_eq_true, decide_eq_true_eq] at h1
  rw [show IntKind.min .u8 = 0 from by decide, show IntKind.max .u8 = 255 from by decide] at h1
  exact h1
end Go.Proofs.Ytkmjmgkpcomldaa.Q
end

section
namespace Go.Proofs.Ytkmjmgkpcomldaa.Pure
open Go.RowKit Go.Proofs.Ytkmjmgkpcomldaa.Q Go.Proofs.YtkmjmgkpcomldaaW.PrintWords Go.Proofs.YtkmjmgkpcomldaaW.PrintLast Go.Proofs.YtkmjmgkpcomldaaW.PrintMore
set_option linter.unusedVariables false
set_option linter.unusedSimpArgs false
theorem smallR {l : List S79} {n : ByteArray} (hr : refsB l = true) (hn : nameB n = true) : ¬ refBig l n := by
  have h8 := refsB_len hr
  unfold nameB at hn
  simp only [Bool.and_eq_true, decide_eq_true_eq] at hn
  obtain ⟨⟨⟨_, h⟩, _⟩, _⟩ := hn
  unfold refBig
  omega
theorem refs_fine {l : List S79} (hr : refsB l = true) {i : Nat} (hi : i < l.length) : refB l[i] = true := by
  rw [refsB_at] at hr
  simp only [Bool.and_eq_true, decide_eq_true_eq] at hr
  have h := allR_iff.mp hr.2 i hi
  unfold refAt at h
  rw [rdRef hi, Bool.and_eq_true] at h
  exact h.1
theorem ref_live {x : S79} (h : refB x = true) (hg : x.f3 = false) : nameB x.f0 = true ∧ 1 ≤ x.f2 ∧ x.f2 ≤ 1000000 ∧ inB x.f1 1 60 = true := by
  unfold refB at h
  rw [hg] at h
  simp only [Bool.and_eq_true, Bool.false_eq_true, if_false] at h
  obtain ⟨⟨h1, h2⟩, h3⟩ := h
  unfold inB at h2
  simp only [Bool.and_eq_true, decide_eq_true_eq] at h2
  exact ⟨h1, h2.1, h2.2, h3⟩
theorem ref_mk {n : ByteArray} {h v : Int} (hn : nameB n = true) (hh : inB h 1 60 = true) (h1 : 1 ≤ v) (h2 : v ≤ 1000000) : refB (⟨n, h, v, false⟩ : S79) = true := by
  unfold refB
  simp only [hn, hh, Bool.true_and, Bool.false_eq_true, if_false, Bool.and_true]
  unfold inB
  rw [decide_eq_true h1, decide_eq_true h2]
  rfl
theorem ref_gone {n : ByteArray} {v : Int} (hn : nameB n = true) (h1 : 1 ≤ v) (h2 : v ≤ 1000000) : refB (⟨n, 0, v, true⟩ : S79) = true := by
  unfold refB
  simp only [hn, Bool.true_and, if_true, beq_self_eq_true, Bool.and_true]
  unfold inB
  rw [decide_eq_true h1, decide_eq_true h2]
  rfl
theorem place_map (l : List S79) (n : ByteArray) : placeI l n = idxI (fun s : ByteArray => s.toList == n.toList) (l.map (fun x => x.f0)) := by
  unfold placeI idxI
  rw [List.findIdx?_map]
  rfl
theorem place_names {l l' : List S79} (h : l.map (fun x => x.f0) = l'.map (fun x => x.f0)) (n : ByteArray) : placeI l n = placeI l' n := by
  rw [place_map, place_map, h]
theorem set_names {l : List S79} {i : Nat} (hi : i < l.length) {y : S79} (hy : y.f0 = l[i].f0) : (l.set i y).map (fun x => x.f0) = l.map (fun x => x.f0) := by
  rw [List.map_set, hy]
  apply List.ext_getElem
  · simp
  · intro j h1 h2
    rw [List.getElem_set]
    split
    · rename_i e
      subst e
      simp
    · rfl
theorem place_set {l : List S79} {i : Nat} (hi : i < l.length) {y : S79} (hy : y.f0 = l[i].f0) (n : ByteArray) : placeI (l.set i y) n = placeI l n := place_names (set_names hi hy) n
theorem refsB_set {l : List S79} (hr : refsB l = true) {i : Nat} (hi : i < l.length) {y : S79} (hy : y.f0 = l[i].f0) (hb : refB y = true) : refsB (l.set i y) = true := by
  rw [refsB_at] at hr ⊢
  simp only [Bool.and_eq_true, decide_eq_true_eq] at hr ⊢
  rw [List.length_set]
  refine ⟨hr.1, allR_iff.mpr (fun j hj => ?_)⟩
  have h := allR_iff.mp hr.2 j hj
  have hj2 : j < (l.set i y).length := by rw [List.length_set]; exact hj
  unfold refAt at h ⊢
  rw [rdRef hj] at h
  rw [rdRef hj2, Bool.and_eq_true]
  rw [Bool.and_eq_true] at h
  have hnm : (l.set i y)[j].f0 = l[j].f0 := by
    rw [List.getElem_set]
    split
    · rename_i e
      subst e
      exact hy
    · rfl
  have ht : ∀ n, placeI ((l.set i y).take j) n = placeI (l.take j) n := fun n => place_names (by rw [List.map_take, List.map_take, set_names hi hy]) n
  refine ⟨?_, by rw [hnm, ht]; exact h.2⟩
  rw [List.getElem_set]
  split
  · exact hb
  · exact h.1
theorem load_dead {l : List S79} {n : ByteArray} (hr : refsB l = true) (hn : nameB n = true) (hd : ∀ (i : Nat) (hi : i < l.length), placeI l n = (i : Int) → l[i].f3 = true) :
    Ev (fun k => spec_LoadRef.f k l n) (0, 0, 10) ∧ Ev (fun k => impl_LoadRef.f k l n) (0, 0, 10) := by
  have hb := smallR hr hn
  have h8 := refsB_len hr
  have hl : l.length ≤ 1048576 := by omega
  have h1 : ¬ (l.length : Int) > 4096 := by unfold refBig at hb; omega
  have h2 : ¬ (n.size : Int) > 65536 := by unfold refBig at hb; omega
  have hs : ∀ v, Ev (fun k => spec_LoadRef.j0 k l n false) v → Ev (fun k => spec_LoadRef.f k l n) v := fun v h => Ev.congr (fun k => by unfold spec_LoadRef.f; simp only [h1, h2, if_false, decide_false]) h
  rcases placeI_cases l n with hp | ⟨i, hi, hp, hnm⟩
  · refine ⟨hs _ (Ev.succ ?_), ?_⟩
    · simp only [spec_LoadRef.j0, Bool.false_eq_true, if_false]
      refine Ev.bind (l04Ask_small hb) ?_
      simp only [hr, if_true]
      refine Ev.bind (l04Live_none hl hp) ?_
      exact Ev.now _
    · unfold impl_LoadRef.f
      refine Ev.bind (refsCode_small hb) ?_
      simp only [hr, if_true, live_none hp, Option.bind_some, Bool.false_eq_true, if_false]
      exact Ev.now _
  · have hg := hd i hi hp
    refine ⟨hs _ (Ev.succ ?_), ?_⟩
    · simp only [spec_LoadRef.j0, Bool.false_eq_true, if_false]
      refine Ev.bind (l04Ask_small hb) ?_
      simp only [hr, if_true]
      refine Ev.bind (l04Live_some hl hi hp) ?_
      simp only [hg, if_true]
      exact Ev.now _
    · unfold impl_LoadRef.f
      refine Ev.bind (refsCode_small hb) ?_
      simp only [hr, if_true, live_some hi hp, hg, Option.bind_some, Bool.not_true, Bool.false_eq_true, if_false]
      exact Ev.now _
theorem load_live {l : List S79} {n : ByteArray} (hr : refsB l = true) (hn : nameB n = true) {i : Nat} (hi : i < l.length) (hp : placeI l n = (i : Int)) (hg : l[i].f3 = false) :
    Ev (fun k => spec_LoadRef.f k l n) (l[i].f1, l[i].f2, 0) ∧ Ev (fun k => impl_LoadRef.f k l n) (l[i].f1, l[i].f2, 0) := by
  have hb := smallR hr hn
  have h8 := refsB_len hr
  have hl : l.length ≤ 1048576 := by omega
  have h1 : ¬ (l.length : Int) > 4096 := by unfold refBig at hb; omega
  have h2 : ¬ (n.size : Int) > 65536 := by unfold refBig at hb; omega
  have hs : ∀ v, Ev (fun k => spec_LoadRef.j0 k l n false) v → Ev (fun k => spec_LoadRef.f k l n) v := fun v h => Ev.congr (fun k => by unfold spec_LoadRef.f; simp only [h1, h2, if_false, decide_false]) h
  have c1 : (i : Int) < (l.length : Int) := by omega
  have n1 : ¬ (i : Int) < 0 := by omega
  refine ⟨hs _ (Ev.succ ?_), ?_⟩
  · simp only [spec_LoadRef.j0, Bool.false_eq_true, if_false]
    refine Ev.bind (l04Ask_small hb) ?_
    simp only [hr, if_true]
    refine Ev.bind (l04Live_some hl hi hp) ?_
    simp only [hg, Bool.false_eq_true, if_false, n1, Int.natCast_nonneg, c1, if_true, rdRef hi]
    exact Ev.now _
  · unfold impl_LoadRef.f
    refine Ev.bind (refsCode_small hb) ?_
    simp only [hr, if_true, live_some hi hp, hg, Option.bind_some, Bool.not_false, Int.natCast_nonneg, c1, rdRef hi]
    exact Ev.now _
def liveL (l : List S79) : List ByteArray := (l.filter (fun x => !x.f3)).map (fun x => x.f0)
theorem liveL_cons (x : S79) (r : List S79) : liveL (x :: r) = if x.f3 = true then liveL r else x.f0 :: liveL r := by
  unfold liveL
  cases h : x.f3 <;> simp [List.filter_cons, h]
theorem live_loop {L : Nat → List ByteArray → Int → Option (List ByteArray × Int)} (l : List S79) (h8 : l.length ≤ 8)
    (step : ∀ (i : Nat) (hi : i < l.length) (acc : List ByteArray), acc.length ≤ i → ∀ k, L (k + 1) acc (i : Int) = if l[i].f3 = true then L k acc ((i + 1 : Nat) : Int) else L k (acc ++ [l[i].f0]) ((i + 1 : Nat) : Int))
    (done : ∀ acc k, L (k + 1) acc (l.length : Int) = some (acc, 0)) : Ev (fun k => L k [] 0) (liveL l, 0) := by
  have key : ∀ d (i : Nat) (acc : List ByteArray), i + d = l.length → acc.length ≤ i → Ev (fun k => L k acc (i : Int)) (acc ++ liveL (l.drop i), 0) := by
    intro d
    induction d with
    | zero =>
      intro i acc hi ha
      obtain rfl : i = l.length := by omega
      rw [List.drop_length]
      have e : liveL [] = [] := rfl
      rw [e, List.append_nil]
      exact Ev.at_ (c := 1) (done acc)
    | succ d ih =>
      intro i acc hi ha
      have hil : i < l.length := by omega
      rw [List.drop_eq_getElem_cons hil, liveL_cons]
      cases hg : l[i].f3 with
      | true =>
        simp only [if_true]
        exact Ev.step (fun k => by rw [step i hil acc ha k, hg]; simp only [if_true]) (ih (i + 1) acc (by omega) (by omega))
      | false =>
        simp only [Bool.false_eq_true, if_false]
        have h2 := ih (i + 1) (acc ++ [l[i].f0]) (by omega) (by simp; omega)
        rw [List.append_assoc, List.singleton_append] at h2
        exact Ev.step (fun k => by rw [step i hil acc ha k, hg]; simp only [Bool.false_eq_true, if_false]) h2
  have h := key l.length 0 [] (by omega) (by simp)
  simpa using h
theorem liveL_len (l : List S79) : (liveL l).length ≤ l.length := by
  unfold liveL
  rw [List.length_map]
  exact List.length_filter_le _ _
theorem live_val {l : List S79} (hr : refsB l = true) : Ev (fun k => spec_LiveRefs.f k l) (liveL l, 0) ∧ Ev (fun k => impl_LiveRefs.f k l) (liveL l, 0) := by
  have h8 := refsB_len hr
  have hz : ((⟨#[]⟩ : ByteArray).size : Int) = 0 := rfl
  have hb : ¬ refBig l (⟨#[]⟩ : ByteArray) := by unfold refBig; omega
  have h1 : ¬ (l.length : Int) > 4096 := by omega
  refine ⟨?_, ?_⟩
  · unfold spec_LiveRefs.f
    simp only [h1, if_false]
    refine Ev.bind (hr ▸ l04OK_ev l) ?_
    simp only [if_true]
    refine live_loop (L := fun k acc i => spec_LiveRefs.l0 k l acc i) l h8 ?_ ?_
    · intro i hi acc ha k
      have c1 : (i : Int) < (l.length : Int) := by omega
      have c2 : acc.length < 8796093022208 := by omega
      simp only [spec_LiveRefs.l0, c1, c2, Int.natCast_nonneg, if_true, rdRef hi, wrap_i (show i < 4611686018427387904 by omega)]
    · intro acc k
      simp only [spec_LiveRefs.l0]
      rw [if_neg (by omega)]
  · unfold impl_LiveRefs.f
    refine Ev.bind (refsCode_small hb) ?_
    simp only [hr, if_true]
    refine live_loop (L := fun k acc i => impl_LiveRefs.l0 k acc l (l.length : Int) i) l h8 ?_ ?_
    · intro i hi acc ha k
      have c1 : (i : Int) < (l.length : Int) := by omega
      have c2 : acc.length < 8796093022208 := by omega
      simp only [impl_LiveRefs.l0, c1, c2, Int.natCast_nonneg, if_true, rdRef hi, wrap_i (show i < 4611686018427387904 by omega)]
    · intro acc k
      simp only [impl_LiveRefs.l0]
      rw [if_neg (by omega)]
theorem create_ev (l : List S79) (n : ByteArray) (h : Int) (h8 : l.length ≤ 8) : ∃ res code, Ev (fun k => spec_l04Create.f k l n h) (res, code) ∧ Ev (fun k => impl_create.f k l n h) (res, code) ∧ res.length ≤ 9 ∧ ((∃ (i : Nat) (hi : i < l.length), placeI l n = (i : Int) ∧ l[i].f3 = false) → code = 14) ∧ ((∀ (i : Nat) (hi : i < l.length), placeI l n = (i : Int) → l[i].f3 = true) → code ≠ 14) := by
  have hl : l.length ≤ 1048576 := by omega
  rcases placeI_cases l n with hp | ⟨i, hi, hp, hnm⟩
  · have noLive : ∀ {c : Int}, (∃ (i : Nat) (hi : i < l.length), placeI l n = (i : Int) ∧ l[i].f3 = false) → c = 14 := fun ⟨j, _, h, _⟩ => by rw [hp] at h; omega
    have n1 : ¬ ((-1 : Int) ≥ 0) := by decide
    have n2 : (-1 : Int) < 0 := by decide
    have sp : ∀ v, Ev (fun k => spec_l04Create.j1 k l n h (-1) ((l.length : Int) == 8)) v → Ev (fun k => spec_l04Create.f k l n h) v := fun v hv => by
      unfold spec_l04Create.f
      refine Ev.bind (hp ▸ l04At_ev l n hl) ?_
      simp only [n1, if_false]
      refine Ev.succ ?_
      simp only [spec_l04Create.j0, n1, n2, Bool.false_eq_true, if_false, if_true]
      exact hv
    have ip : ∀ v, Ev (fun k => impl_create.j1 k l n h l (-1) ((l.length : Int) == 8)) v → Ev (fun k => impl_create.f k l n h) v := fun v hv => by
      unfold impl_create.f impl_place.f
      simp only [clone_is hl, hp, Option.bind_some, n1, if_false]
      refine Ev.succ ?_
      simp only [impl_create.j0, n1, n2, Bool.false_eq_true, if_false, if_true]
      exact hv
    by_cases h9 : (l.length : Int) = 8
    · have z : ((l.length : Int) == 8) = true := by rw [beq_iff_eq]; exact h9
      refine ⟨l, 7, sp _ (Ev.at_ (c := 1) (fun k => ?_)), ip _ (Ev.at_ (c := 1) (fun k => ?_)), by omega, noLive, fun _ => by decide⟩
      · simp only [spec_l04Create.j1, z, if_true]
      · simp only [impl_create.j1, z, if_true]
    · have z : ((l.length : Int) == 8) = false := by rw [beq_eq_false_iff_ne]; exact h9
      have lim : l.length < 3518437208883 := by omega
      refine ⟨l ++ [⟨n, h, 1, false⟩], 0, sp _ (Ev.at_ (c := 1) (fun k => ?_)), ip _ (Ev.at_ (c := 1) (fun k => ?_)), by simp; omega, noLive, fun _ => by decide⟩
      · simp only [spec_l04Create.j1, z, Bool.false_eq_true, if_false, n1, Option.bind_some, List.length_nil, Nat.zero_add, List.nil_append, lim, if_true]
      · simp only [impl_create.j1, z, Bool.false_eq_true, if_false, n2, lim, if_true]
  · have c1 : (i : Int) < (l.length : Int) := by omega
    have n1 : (i : Int) ≥ 0 := by omega
    have n2 : ¬ (i : Int) < 0 := by omega
    have sp : ∀ v, Ev (fun k => spec_l04Create.j0 k l n h (i : Int) (!l[i].f3)) v → Ev (fun k => spec_l04Create.f k l n h) v := fun v hv => by
      unfold spec_l04Create.f
      refine Ev.bind (hp ▸ l04At_ev l n hl) ?_
      simp only [n1, c1, Int.natCast_nonneg, if_true, rdRef hi]
      exact hv
    have ip : ∀ v, Ev (fun k => impl_create.j0 k l n h l (i : Int) (!l[i].f3)) v → Ev (fun k => impl_create.f k l n h) v := fun v hv => by
      unfold impl_create.f impl_place.f
      simp only [clone_is hl, hp, Option.bind_some, n1, c1, Int.natCast_nonneg, if_true, rdRef hi]
      exact hv
    cases hg : l[i].f3 with
    | false =>
      rw [hg] at sp ip
      refine ⟨l, 14, sp _ (Ev.at_ (c := 1) (fun k => ?_)), ip _ (Ev.at_ (c := 1) (fun k => ?_)), by omega, fun _ => rfl, fun hd => absurd (hd i hi hp) (by rw [hg]; decide)⟩
      · simp only [spec_l04Create.j0, Bool.not_false, if_true]
      · simp only [impl_create.j0, Bool.not_false, if_true]
    | true =>
      rw [hg] at sp ip
      have notLive : ∀ {c : Int}, (∃ (i : Nat) (hi : i < l.length), placeI l n = (i : Int) ∧ l[i].f3 = false) → c = 14 := fun ⟨j, hj, h, hf⟩ => by
        obtain rfl : i = j := by rw [hp] at h; omega
        rw [hg] at hf
        cases hf
      by_cases hv : l[i].f2 = 1000000
      · refine ⟨l, 7, sp _ (Ev.at_ (c := 2) (fun k => ?_)), ip _ (Ev.at_ (c := 2) (fun k => ?_)), by omega, notLive, fun _ => by decide⟩
        · simp only [spec_l04Create.j0, Bool.not_true, Bool.false_eq_true, if_false, n1, c1, Int.natCast_nonneg, if_true, rdRef hi, hv, spec_l04Create.j1]
        · simp only [impl_create.j0, Bool.not_true, Bool.false_eq_true, if_false, n1, c1, Int.natCast_nonneg, if_true, rdRef hi, hv, impl_create.j1]
      · refine ⟨l.set i ⟨n, h, wrap64 (l[i].f2 + 1), false⟩, 0, sp _ (Ev.at_ (c := 2) (fun k => ?_)), ip _ (Ev.at_ (c := 2) (fun k => ?_)), by rw [List.length_set]; omega, notLive, fun _ => by decide⟩
        · simp only [spec_l04Create.j0, Bool.not_true, Bool.false_eq_true, if_false, n1, n2, c1, Int.natCast_nonneg, if_true, rdRef hi, hv, spec_l04Create.j1, l04Set_is hi hl, hnm, Option.bind_some]
        · simp only [impl_create.j0, Bool.not_true, Bool.false_eq_true, if_false, n1, n2, c1, Int.natCast_nonneg, if_true, rdRef hi, hv, impl_create.j1, Int.toNat_natCast]
theorem create_val {l : List S79} {n : ByteArray} {h : Int} (hr : refsB l = true) (hw : nameB n = true) (hh : inB h 1 60 = true) : ∃ res code, Ev (fun k => spec_CreateRef.f k l n h) (res, code) ∧ Ev (fun k => impl_CreateRef.f k l n h) (res, code) ∧ res.length ≤ 9 ∧ ((∃ (i : Nat) (hi : i < l.length), placeI l n = (i : Int) ∧ l[i].f3 = false) → code = 14) ∧ ((∀ (i : Nat) (hi : i < l.length), placeI l n = (i : Int) → l[i].f3 = true) → code ≠ 14) := by
  have hb := smallR hr hw
  have h8 := refsB_len hr
  have h1 : ¬ (l.length : Int) > 4096 := by unfold refBig at hb; omega
  have h2 : ¬ (n.size : Int) > 65536 := by unfold refBig at hb; omega
  have hs : ∀ v, Ev (fun k => spec_CreateRef.j0 k l n h false) v → Ev (fun k => spec_CreateRef.f k l n h) v := fun v h => Ev.congr (fun k => by unfold spec_CreateRef.f; simp only [h1, h2, if_false, decide_false]) h
  have hh2 : impl_isHead.f h = some true := (isHead_f h).trans (by rw [hh])
  obtain ⟨res, code, hcs, hci, hlen, hlv⟩ := create_ev l n h h8
  refine ⟨res, code, hs _ (Ev.succ ?_), ?_, hlen, hlv⟩
  · simp only [spec_CreateRef.j0, Bool.false_eq_true, if_false]
    refine Ev.bind (l04Ask_small hb) ?_
    simp only [hr, if_true]
    refine Ev.bind (hw ▸ l00Word_ev n) ?_
    simp only [if_true, l01In_is, hh, Option.bind_some]
    refine Ev.bind hcs ?_
    simp only [List.length_nil, Nat.zero_add, List.nil_append, (show res.length < 3518437208883 by omega), if_true]
    exact Ev.now _
  · unfold impl_CreateRef.f impl_NameOK.f
    refine Ev.bind (refsCode_small hb) ?_
    simp only [hr, if_true, hw, Option.bind_some, hh2]
    exact Ev.bind hci (Ev.now _)
theorem create_gone {l : List S79} {n : ByteArray} {h : Int} (hr : refsB l = true) (hw : nameB n = true) (hh : inB h 1 60 = true) {i : Nat} (hi : i < l.length) (hp : placeI l n = (i : Int)) (hnm : l[i].f0 = n) (hg : l[i].f3 = true) (hv : l[i].f2 ≠ 1000000) :
    Ev (fun k => impl_CreateRef.f k l n h) (l.set i ⟨n, h, wrap64 (l[i].f2 + 1), false⟩, 0) := by
  have hb := smallR hr hw
  have h8 := refsB_len hr
  have hl : l.length ≤ 1048576 := by omega
  have hh2 : impl_isHead.f h = some true := (isHead_f h).trans (by rw [hh])
  have c1 : (i : Int) < (l.length : Int) := by omega
  have n1 : (i : Int) ≥ 0 := by omega
  have n2 : ¬ (i : Int) < 0 := by omega
  unfold impl_CreateRef.f impl_NameOK.f
  refine Ev.bind (refsCode_small hb) ?_
  simp only [hr, if_true, hw, Option.bind_some, hh2]
  refine Ev.bind (a := (l.set i ⟨n, h, wrap64 (l[i].f2 + 1), false⟩, 0)) ?_ (Ev.now _)
  unfold impl_create.f impl_place.f
  simp only [clone_is hl, hp, Option.bind_some, n1, c1, Int.natCast_nonneg, if_true, rdRef hi, hg, Bool.not_true]
  refine Ev.at_ (c := 2) (fun k => ?_)
  simp only [impl_create.j0, Bool.not_true, Bool.false_eq_true, if_false, n1, n2, c1, Int.natCast_nonneg, if_true, rdRef hi, hv, impl_create.j1, Int.toNat_natCast]
theorem swap_val {l : List S79} {n : ByteArray} {v h : Int} (hr : refsB l = true) (hn : nameB n = true) (hh : inB h 1 60 = true) {i : Nat} (hi : i < l.length) (hp : placeI l n = (i : Int)) (hg : l[i].f3 = false) (hv : l[i].f2 = v) (hm : ¬ v = 1000000) :
    Ev (fun k => spec_SwapRef.f k l n v h) (l.set i ⟨l[i].f0, h, wrap64 (l[i].f2 + 1), false⟩, 0) ∧ Ev (fun k => impl_SwapRef.f k l n v h) (l.set i ⟨l[i].f0, h, wrap64 (l[i].f2 + 1), false⟩, 0) := by
  have hb := smallR hr hn
  have h8 := refsB_len hr
  have hl : l.length ≤ 1048576 := by omega
  have h1 : ¬ (l.length : Int) > 4096 := by unfold refBig at hb; omega
  have h2 : ¬ (n.size : Int) > 65536 := by unfold refBig at hb; omega
  have hs : ∀ vv, Ev (fun k => spec_SwapRef.j0 k l n v h false) vv → Ev (fun k => spec_SwapRef.f k l n v h) vv := fun vv hh => Ev.congr (fun k => by unfold spec_SwapRef.f; simp only [h1, h2, if_false, decide_false]) hh
  have hh2 : impl_isHead.f h = some true := (isHead_f h).trans (by rw [hh])
  have hne : (h == 0) = false := by
    unfold inB at hh
    simp only [Bool.and_eq_true, decide_eq_true_eq] at hh
    rw [beq_eq_false_iff_ne]
    omega
  have c1 : (i : Int) < (l.length : Int) := by omega
  have n1 : ¬ (i : Int) < 0 := by omega
  refine ⟨hs _ (Ev.succ ?_), ?_⟩
  · simp only [spec_SwapRef.j0, Bool.false_eq_true, if_false]
    refine Ev.bind (l04Ask_small hb) ?_
    simp only [hr, if_true]
    simp only [l01In_is, hh, Option.bind_some, if_true]
    refine Ev.bind (Ev.bind (l04Live_some hl hi hp) (r := (l.set i ⟨l[i].f0, h, wrap64 (l[i].f2 + 1), false⟩, 0)) (by simp only [hg, Bool.false_eq_true, if_false, n1, Int.natCast_nonneg, c1, if_true, rdRef hi, l04Set_is hi hl, hv, hm, Option.bind_some]; exact Ev.now _)) ?_
    simp only [Option.bind_some, List.length_nil, Nat.zero_add, List.nil_append, (show l.length < 3518437208883 by omega), List.length_set, if_true]
    exact Ev.now _
  · unfold impl_SwapRef.f
    refine Ev.bind (refsCode_small hb) ?_
    simp only [hr, if_true]
    simp only [live_some hi hp, hh2, Option.bind_some, hg, Bool.false_eq_true, if_false, n1, Int.natCast_nonneg, c1, if_true, rdRef hi, Bool.not_false, moved_is hi hl, hv, hm, hne]
    exact Ev.now _
theorem swap_stale {l : List S79} {n : ByteArray} {v h : Int} (hr : refsB l = true) (hn : nameB n = true) (hh : inB h 1 60 = true) {i : Nat} (hi : i < l.length) (hp : placeI l n = (i : Int)) (hg : l[i].f3 = false) (hv : ¬ l[i].f2 = v) :
    Ev (fun k => impl_SwapRef.f k l n v h) (l, 13) := by
  have hb := smallR hr hn
  have h8 := refsB_len hr
  have hl : l.length ≤ 1048576 := by omega
  have hh2 : impl_isHead.f h = some true := (isHead_f h).trans (by rw [hh])
  have c1 : (i : Int) < (l.length : Int) := by omega
  have n1 : ¬ (i : Int) < 0 := by omega
  unfold impl_SwapRef.f
  refine Ev.bind (refsCode_small hb) ?_
  simp only [hr, if_true]
  simp only [live_some hi hp, hh2, Option.bind_some, hg, Bool.false_eq_true, if_false, n1, Int.natCast_nonneg, c1, if_true, rdRef hi, Bool.not_false, clone_is hl, hv]
  exact Ev.now _
theorem delete_val {l : List S79} {n : ByteArray} (hr : refsB l = true) (hn : nameB n = true) {i : Nat} (hi : i < l.length) (hp : placeI l n = (i : Int)) (hg : l[i].f3 = false) (hv : ¬ l[i].f2 = 1000000) :
    Ev (fun k => spec_DeleteRef.f k l n) (l.set i ⟨l[i].f0, 0, wrap64 (l[i].f2 + 1), true⟩, 0) ∧ Ev (fun k => impl_DeleteRef.f k l n) (l.set i ⟨l[i].f0, 0, wrap64 (l[i].f2 + 1), true⟩, 0) := by
  have hb := smallR hr hn
  have h8 := refsB_len hr
  have hl : l.length ≤ 1048576 := by omega
  have h1 : ¬ (l.length : Int) > 4096 := by unfold refBig at hb; omega
  have h2 : ¬ (n.size : Int) > 65536 := by unfold refBig at hb; omega
  have hs : ∀ v, Ev (fun k => spec_DeleteRef.j0 k l n false) v → Ev (fun k => spec_DeleteRef.f k l n ) v := fun v h => Ev.congr (fun k => by unfold spec_DeleteRef.f; simp only [h1, h2, if_false, decide_false]) h
  have c1 : (i : Int) < (l.length : Int) := by omega
  have n1 : ¬ (i : Int) < 0 := by omega
  refine ⟨hs _ (Ev.succ ?_), ?_⟩
  · simp only [spec_DeleteRef.j0, Bool.false_eq_true, if_false]
    refine Ev.bind (l04Ask_small hb) ?_
    simp only [hr, if_true]
    refine Ev.bind (Ev.bind (l04Live_some hl hi hp) (r := (l.set i ⟨l[i].f0, 0, wrap64 (l[i].f2 + 1), true⟩, 0)) (by simp only [hg, Bool.false_eq_true, if_false, n1, Int.natCast_nonneg, c1, if_true, rdRef hi, hv, l04Set_is hi hl, Option.bind_some]; exact Ev.now _)) ?_
    simp only [Option.bind_some, List.length_nil, Nat.zero_add, List.nil_append, (show l.length < 3518437208883 by omega), List.length_set, if_true]
    exact Ev.now _
  · unfold impl_DeleteRef.f
    refine Ev.bind (refsCode_small hb) ?_
    simp only [hr, if_true]
    simp only [live_some hi hp, hg, Option.bind_some, Bool.not_false, if_true, moved_is hi hl, hv, if_false]
    exact Ev.now _
theorem same_refs (l : List S79) (h : l.length ≤ 1000000) : Ev (fun k => laws_sameRefs.f k l l) true := by
  have key : ∀ (d i : Nat), i + d = l.length → Ev (fun k => laws_sameRefs.l0 k l l (i : Int)) true := by
    intro d
    induction d with
    | zero =>
      intro i hi
      refine Ev.at_ (c := 1) (fun k => ?_)
      simp only [laws_sameRefs.l0]
      rw [if_neg (by omega)]
    | succ d ih =>
      intro i hi
      have hi2 : i < l.length := by omega
      have c : (i : Int) < (l.length : Int) := by omega
      have w1 : wrap64 ((i : Int) + 1) = ((i + 1 : Nat) : Int) := wrap_i (by omega)
      refine Ev.succ ?_
      simp only [laws_sameRefs.l0, c, if_true, Int.natCast_nonneg, rdRef hi2, w1, beq_self_eq_true, Bool.not_true, Bool.or_self, Bool.false_eq_true, if_false]
      exact ih (i + 1) (by omega)
  unfold laws_sameRefs.f
  simp only [if_true]
  exact key l.length 0 (by omega)
theorem same_texts (l : List ByteArray) (h : l.length ≤ 1000000) : Ev (fun k => laws_sameTexts.f k l l) true := by
  have key : ∀ (d i : Nat), i + d = l.length → Ev (fun k => laws_sameTexts.l0 k l l (i : Int)) true := by
    intro d
    induction d with
    | zero =>
      intro i hi
      refine Ev.at_ (c := 1) (fun k => ?_)
      simp only [laws_sameTexts.l0]
      rw [if_neg (by omega)]
    | succ d ih =>
      intro i hi
      have hi2 : i < l.length := by omega
      have c : (i : Int) < (l.length : Int) := by omega
      have w1 : wrap64 ((i : Int) + 1) = ((i + 1 : Nat) : Int) := wrap_i (by omega)
      refine Ev.succ ?_
      simp only [laws_sameTexts.l0, c, if_true, Int.natCast_nonneg, w1]
      exact ih (i + 1) (by omega)
  unfold laws_sameTexts.f
  simp only [if_true]
  exact key l.length 0 (by omega)
def goodR (n : Nat) (l : List S79) : Prop := l.length ≤ n ∧ (∀ x, x ∈ l → refB x = true ∧ x.f2 ≤ 4) ∧ ∀ j (hj : j < l.length), placeI (l.take j) l[j].f0 < 0
theorem goodR_B {n : Nat} {l : List S79} (h : goodR n l) (hn : n ≤ 8) : refsB l = true := by
  obtain ⟨h1, h2, h3⟩ := h
  rw [refsB_at, Bool.and_eq_true]
  refine ⟨decide_eq_true (by omega), allR_iff.mpr (fun j hj => ?_)⟩
  unfold refAt
  rw [rdRef hj, (h2 _ (List.getElem_mem hj)).1, decide_eq_true (h3 j hj)]
  rfl
theorem goodR_add {n : Nat} {l : List S79} (h : goodR n l) {x : S79} (hx : refB x = true) (hv : x.f2 ≤ 4) (hp : placeI l x.f0 < 0) : goodR (n + 1) (l ++ [x]) := by
  obtain ⟨h1, h2, h3⟩ := h
  refine ⟨by rw [List.length_append, List.length_singleton]; omega, fun y hy => ?_, fun j hj => ?_⟩
  · rcases List.mem_append.mp hy with hy | hy
    · exact h2 y hy
    · obtain rfl := List.mem_singleton.mp hy
      exact ⟨hx, hv⟩
  · rw [List.length_append, List.length_singleton] at hj
    by_cases hl : j < l.length
    · rw [List.getElem_append_left hl, List.take_append_of_le_length (by omega)]
      exact h3 j hl
    · obtain rfl : j = l.length := by omega
      rw [List.getElem_append_right (by omega), List.take_left]
      simp only [Nat.sub_self, List.getElem_cons_zero]
      exact hp
set_option maxHeartbeats 8000000 in
theorem refs_loop {l : List Int} (hl : bytesOK l) : ∀ (d n : Nat) (m : List S79) (a s : Int), n + d ≤ 12 → goodR n m → 0 ≤ a → a + 10 * d ≤ 1000000000 → 0 ≤ s → s < 2147483648 → ∃ r a' s', Ev (fun k => spec_l00Src_refs.l0 k m (d : Int) l a s) (r, a', s') ∧ goodR (n + d) r := by
  intro d
  induction d with
  | zero =>
    intro n m a s hn hm _ _ _ _
    have c : ¬ (((0 : Nat) : Int) > 0) := by decide
    exact ⟨m, a, s, Ev.at_ (c := 1) (fun k => by simp only [spec_l00Src_refs.l0, if_neg c]), hm⟩
  | succ d ih =>
    intro n m a s hn hm h0 h1 h2 h3
    have c : ((d + 1 : Nat) : Int) > 0 := by omega
    have hm1 := hm.1
    obtain ⟨t, a1, s1, e1, ht, b1, b2, b3, b4⟩ := pick_ev hl (a := a) (s := s) ⟨h0, by omega, h2, h3⟩ [(⟨#[109, 97, 105, 110]⟩ : ByteArray), (⟨#[100, 101, 118]⟩ : ByteArray), (⟨#[102, 105, 120]⟩ : ByteArray), (⟨#[111, 108, 100]⟩ : ByteArray), (⟨#[98, 49]⟩ : ByteArray), (⟨#[98, 50]⟩ : ByteArray)] (by decide) (by decide)
    have hk : nameB t = true := by
      simp only [List.mem_cons, List.mem_nil_iff, or_false] at ht
      rcases ht with rfl | rfl | rfl | rfl | rfl | rfl <;> kernel_rfl
    obtain ⟨v, a2, s2, e2, v1, v2, d1, d2, d3, d4⟩ := next_ev hl (a := a1) (s := s1) ⟨by omega, by omega, b3, b4⟩ 9 (by decide) (by decide)
    obtain ⟨u, a3, s3, e3, u1, u2, f1, f2, f3, f4⟩ := next_ev hl (a := a2) (s := s2) ⟨by omega, by omega, d3, d4⟩ 4 (by decide) (by decide)
    obtain ⟨x, a4, s4, e4, x1, x2, g1, g2, g3, g4⟩ := next_ev hl (a := a3) (s := s3) ⟨by omega, by omega, f3, f4⟩ 5 (by decide) (by decide)
    have ew : wrap64 (((d + 1 : Nat) : Int) - 1) = (d : Int) := (wid (by omega) (by omega)).trans (by omega)
    have wv : wrap64 (1 + v) = 1 + v := wid (by omega) (by omega)
    have wu : wrap64 (1 + u) = 1 + u := wid (by omega) (by omega)
    have hc : spec_l00Src_chance.f l a3 s3 5 = some ((x == wrap64 (5 - 1)), a4, s4) := by
      unfold spec_l00Src_chance.f
      rw [e4]
      rfl
    have hAt := l04At_ev m t (by omega)
    have hlim : m.length < 3518437208883 := by omega
    have hskip : goodR (n + 1) m := ⟨by omega, hm.2⟩
    have hnd : n + (d + 1) = n + 1 + d := by omega
    have hih : ∀ m', goodR (n + 1) m' → ∃ r a' s', Ev (fun k => spec_l00Src_refs.l0 k m' (d : Int) l a4 s4) (r, a', s') ∧ goodR (n + (d + 1)) r := fun m' hm' => by
      rw [hnd]
      exact ih (n + 1) m' a4 s4 (by omega) hm' (by omega) (by omega) g3 g4
    by_cases hp : placeI m t < 0
    · cases hx : (x == wrap64 (5 - 1)) with
      | true =>
        obtain ⟨r, a', s', e, hr⟩ := hih (m ++ [⟨t, 0, 1 + u, true⟩]) (goodR_add hm (ref_gone hk (by omega) (by omega)) (by show 1 + u ≤ 4; omega) hp)
        refine ⟨r, a', s', Ev.succ ?_, hr⟩
        simp only [spec_l00Src_refs.l0, if_pos c, e1, e2, e3, hc, hx, Option.bind_some, ew, wv, wu, if_true]
        refine Ev.bind hAt ?_
        simp only [hp, hlim, if_true]
        exact e
      | false =>
        have hh : inB (1 + v) 1 60 = true := by
          unfold inB
          rw [decide_eq_true (by omega), decide_eq_true (by omega)]
          rfl
        obtain ⟨r, a', s', e, hr⟩ := hih (m ++ [⟨t, 1 + v, 1 + u, false⟩]) (goodR_add hm (ref_mk hk hh (by omega) (by omega)) (by show 1 + u ≤ 4; omega) hp)
        refine ⟨r, a', s', Ev.succ ?_, hr⟩
        simp only [spec_l00Src_refs.l0, if_pos c, e1, e2, e3, hc, hx, Option.bind_some, ew, wv, wu, Bool.false_eq_true, if_false]
        refine Ev.bind hAt ?_
        simp only [hp, hlim, if_true]
        exact e
    · obtain ⟨r, a', s', e, hr⟩ := hih m hskip
      refine ⟨r, a', s', Ev.succ ?_, hr⟩
      cases hx : (x == wrap64 (5 - 1)) with
      | true =>
        simp only [spec_l00Src_refs.l0, if_pos c, e1, e2, e3, hc, hx, Option.bind_some, ew, wv, wu, if_true]
        refine Ev.bind hAt ?_
        simp only [hp, if_false]
        exact e
      | false =>
        simp only [spec_l00Src_refs.l0, if_pos c, e1, e2, e3, hc, hx, Option.bind_some, ew, wv, wu, Bool.false_eq_true, if_false]
        refine Ev.bind hAt ?_
        simp only [hp, if_false]
        exact e
theorem refs_drawn (l : List Int) (hl : bytesOK l) (hlen : l.length ≤ 1048576) : ∃ m, Ev (fun k => spec_RefsDrawn.f k l) m ∧ goodR 4 m := by
  have hs : seedOK 0 ((l.length : Int) % 1000) := ⟨by omega, by omega, by omega, by omega⟩
  obtain ⟨v, a1, s1, e1, v1, v2, d1, d2, d3, d4⟩ := next_ev hl hs 5 (by decide) (by decide)
  obtain ⟨n, rfl⟩ := Int.eq_ofNat_of_zero_le v1
  have h0 : goodR 0 ([] : List S79) := ⟨by simp, by simp, by simp⟩
  obtain ⟨r, a', s', e2, hr⟩ := refs_loop hl n 0 [] a1 s1 (by omega) h0 (by omega) (by omega) d3 d4
  refine ⟨r, ?_, by have := hr.1; omega, hr.2⟩
  unfold spec_RefsDrawn.f spec_l00Source.f
  simp only [Option.bind_some]
  refine Ev.bind (a := (r, a', s')) ?_ (Ev.now _)
  unfold spec_l00Src_refs.f
  simp only [e1, Option.bind_some]
  exact e2
theorem branch_drawn {l : List Int} (hl : bytesOK l) (hlen : l.length ≤ 1048576) : ∃ t, spec_BranchDrawn.f l = some t ∧ nameB t = true := by
  have hs : seedOK 0 ((l.length : Int) % 1000) := ⟨by omega, by omega, by omega, by omega⟩
  obtain ⟨t, a', s', e, ht, _⟩ := pick_ev hl hs [(⟨#[109, 97, 105, 110]⟩ : ByteArray), (⟨#[100, 101, 118]⟩ : ByteArray), (⟨#[102, 105, 120]⟩ : ByteArray), (⟨#[111, 108, 100]⟩ : ByteArray)] (by decide) (by decide)
  refine ⟨t, ?_, ?_⟩
  · unfold spec_BranchDrawn.f spec_l00Source.f
    simp only [Option.bind_some]
    unfold spec_l00Src_branch.f
    simp only [e, Option.bind_some]
  · simp only [List.mem_cons, List.mem_nil_iff, or_false] at ht
    rcases ht with rfl | rfl | rfl | rfl <;> kernel_rfl
theorem at_ev {l : List Int} (hl : bytesOK l) {a n : Int} (h0 : 0 ≤ a) (h1 : a ≤ 1000) (hn : 2 ≤ n) (hn2 : n ≤ 1000) : ∃ v, laws_at.f l a n = some v ∧ 0 ≤ v ∧ v < n := by
  have n1 : ¬ n ≤ 1 := by omega
  have n2 : ¬ n = 0 := by omega
  unfold laws_at.f
  by_cases hz : (l.length : Int) = 0
  · have e : wrap64 (a * 7) = a * 7 := wid (by omega) (by omega)
    refine ⟨_, by simp only [n1, hz, n2, if_true, if_false]; rfl, ?_⟩
    rw [e]
    exact tmod_in (by omega) (by omega)
  · have hp : 0 < (l.length : Int) := by omega
    obtain ⟨p1, p2⟩ := tmod_in h0 hp
    have e1 : wrap64 (a + 1) = a + 1 := wid (by omega) (by omega)
    obtain ⟨q1, q2⟩ := tmod_in (x := a + 1) (by omega) hp
    obtain ⟨r1, r2⟩ := rd_in hl p1 p2
    obtain ⟨s1, s2⟩ := rd_in hl q1 q2
    have d1 : 0 ≤ Int.tdiv a (l.length : Int) := Int.tdiv_nonneg h0 (by omega)
    have d2 : Int.tdiv a (l.length : Int) ≤ a := Int.tdiv_le_self _ h0
    refine ⟨_, by simp only [n1, hz, n2, e1, p1, p2, q1, q2, if_true, if_false]; rfl, ?_⟩
    generalize rd l (Int.tmod a (l.length : Int)) = x at r1 r2 ⊢
    generalize rd l (Int.tmod (a + 1) (l.length : Int)) = y at s1 s2 ⊢
    generalize Int.tdiv a (l.length : Int) = z at d1 d2 ⊢
    have w1 : wrap64 x = x := wid (by omega) (by omega)
    have w2 : wrap64 y = y := wid (by omega) (by omega)
    have w3 : wrap64 z = z := wid (by omega) (by omega)
    have w4 : wrap64 (x * 31) = x * 31 := wid (by omega) (by omega)
    have w5 : wrap64 (x * 31 + y) = x * 31 + y := wid (by omega) (by omega)
    have w6 : wrap64 (x * 31 + y + z) = x * 31 + y + z := wid (by omega) (by omega)
    rw [w1, w2, w3, w4, w5, w6]
    exact tmod_in (by omega) (by omega)
set_option maxHeartbeats 4000000 in
theorem refs_j1 {l : List S79} {n : ByteArray} {h : Int} {l1 : List Int} (hr : refsB l = true) (hn : nameB n = true) (hh : inB h 1 60 = true) {i : Nat} (hi : i < l.length) (hp : placeI l n = (i : Int)) (hnm : l[i].f0 = n) (hg : l[i].f3 = false) (hv4 : l[i].f2 ≤ 4) :
    Ev (fun k => laws_FnRefs.j1 k l n h l[i].f2 l[i].f1 l[i].f2 0 false) true := by
  have h8 := refsB_len hr
  obtain ⟨_, v1, v2, hd⟩ := ref_live (refs_fine hr hi) hg
  have w1 : wrap64 (l[i].f2 + 1) = l[i].f2 + 1 := wid (by omega) (by omega)
  obtain ⟨ss, si⟩ := swap_val (v := l[i].f2) hr hn hh hi hp hg rfl (by omega)
  obtain ⟨ds, di⟩ := delete_val hr hn hi hp hg (by omega)
  rw [hnm, w1] at ss si ds di
  generalize hX : l.set i (⟨n, h, l[i].f2 + 1, false⟩ : S79) = X at ss si
  generalize hG : l.set i (⟨n, 0, l[i].f2 + 1, true⟩ : S79) = G at ds di
  have rX : refsB X = true := by rw [← hX]; exact refsB_set hr hi hnm.symm (ref_mk hn hh (by omega) (by omega))
  have rG : refsB G = true := by rw [← hG]; exact refsB_set hr hi hnm.symm (ref_gone hn (by omega) (by omega))
  have iX : i < X.length := by rw [← hX, List.length_set]; exact hi
  have iG : i < G.length := by rw [← hG, List.length_set]; exact hi
  have eX : X[i] = (⟨n, h, l[i].f2 + 1, false⟩ : S79) := by
    subst hX
    exact List.getElem_set_self _
  have eG : G[i] = (⟨n, 0, l[i].f2 + 1, true⟩ : S79) := by
    subst hG
    exact List.getElem_set_self _
  have pX : placeI X n = (i : Int) := by rw [← hX, place_set hi hnm.symm]; exact hp
  have pG : placeI G n = (i : Int) := by rw [← hG, place_set hi hnm.symm]; exact hp
  have late := swap_stale (v := l[i].f2) (h := h) rX hn hh iX pX (by rw [eX]) (by rw [eX]; show ¬ l[i].f2 + 1 = l[i].f2; omega)
  obtain ⟨_, lX⟩ := load_live rX hn iX pX (by rw [eX])
  obtain ⟨_, lG⟩ := load_dead rG hn (fun j hj he => by
    obtain rfl : i = j := by rw [pG] at he; omega
    rw [eG])
  have ag := create_gone (h := l[i].f1) rG hn hd iG pG (by rw [eG]) (by rw [eG]) (by rw [eG]; show l[i].f2 + 1 ≠ 1000000; omega)
  rw [eX] at lX
  rw [eG] at ag
  have w2 : wrap64 (l[i].f2 + 1 + 1) = l[i].f2 + 2 := (wid (by omega) (by omega)).trans (by omega)
  simp only [w2] at ag
  generalize hA : G.set i (⟨n, l[i].f1, l[i].f2 + 2, false⟩ : S79) = A at ag
  have rA : refsB A = true := by rw [← hA]; exact refsB_set rG iG (by rw [eG]) (ref_mk hn hd (by omega) (by omega))
  have iA : i < A.length := by rw [← hA, List.length_set]; exact iG
  have eA : A[i] = (⟨n, l[i].f1, l[i].f2 + 2, false⟩ : S79) := by
    subst hA
    exact List.getElem_set_self _
  have pA : placeI A n = (i : Int) := by rw [← hA, place_set iG (by rw [eG])]; exact pG
  have lateA := swap_stale (v := l[i].f2) (h := h) rA hn hh iA pA (by rw [eA]) (by rw [eA]; show ¬ l[i].f2 + 2 = l[i].f2; omega)
  refine Ev.succ ?_
  simp only [laws_FnRefs.j1, Bool.false_eq_true, if_false, if_true]
  refine Ev.bind si (Ev.bind ss (Ev.bind late (Ev.bind di (Ev.bind ds (Ev.bind ag (Ev.bind lateA (Ev.bind lX (Ev.bind lG ?_))))))))
  simp only [if_true]
  refine Ev.bind (same_refs X (by rw [← hX, List.length_set]; omega)) ?_
  simp only [if_true]
  refine Ev.bind (same_refs G (by rw [← hG, List.length_set]; omega)) ?_
  simp only [if_true, w1, beq_self_eq_true]
  exact Ev.now _
set_option maxHeartbeats 4000000 in
theorem FnRefs : laws_FnRefs.Pure := by
  intro l0 l1 _ _ w0 _ _ w1
  refine Ev.rounds ?_
  unfold laws_FnRefs.f
  by_cases c0 : (l0.length : Int) > 1048576
  · simp only [c0, if_true]
    exact Ev.at_ (c := 1) (fun k => by simp only [laws_FnRefs.j0, if_true])
  simp only [c0, if_false]
  by_cases c1 : (l1.length : Int) > 1048576
  · simp only [c1, decide_true]
    exact Ev.at_ (c := 1) (fun k => by simp only [laws_FnRefs.j0, if_true])
  simp only [c1, decide_false]
  have hl1 := bytes_wf w1
  obtain ⟨l, em, gm⟩ := refs_drawn l0 (bytes_wf w0) (by omega)
  obtain ⟨n, en, hn⟩ := branch_drawn hl1 (by omega)
  obtain ⟨t, et, t1, t2⟩ := at_ev hl1 (a := 0) (n := 9) (by omega) (by omega) (by omega) (by omega)
  have hr := goodR_B gm (by omega)
  have h8 := refsB_len hr
  have wt : wrap64 (1 + t) = 1 + t := wid (by omega) (by omega)
  have hh : inB (1 + t) 1 60 = true := by
    unfold inB
    rw [decide_eq_true (by omega), decide_eq_true (by omega)]
    rfl
  obtain ⟨lvs, lvi⟩ := live_val hr
  obtain ⟨made, code, cs, ci, hlen, hc1, hc2⟩ := create_val hr hn hh
  have hlv := liveL_len l
  refine Ev.succ ?_
  simp only [laws_FnRefs.j0, Bool.false_eq_true, if_false, en, et, Option.bind_some, wt]
  refine Ev.bind em ?_
  by_cases hlive : ∃ (i : Nat) (hi : i < l.length), placeI l n = (i : Int) ∧ l[i].f3 = false
  · have hc := hc1 hlive
    obtain ⟨i, hi, hp, hg⟩ := hlive
    have hnm : l[i].f0 = n := by
      rcases placeI_cases l n with h | ⟨j, hj, h, e⟩
      · omega
      · obtain rfl : i = j := by omega
        exact e
    obtain ⟨ls, li⟩ := load_live hr hn hi hp hg
    refine Ev.bind li (Ev.bind ls (Ev.bind lvi (Ev.bind lvs (Ev.bind ci (Ev.bind cs ?_)))))
    simp only [if_true]
    refine Ev.bind (same_texts _ (by omega)) ?_
    simp only [if_true]
    refine Ev.bind (same_refs _ (by omega)) ?_
    simp only [if_true]
    refine Ev.bind (hr ▸ refsOK_ev l) ?_
    simp only [if_true, hc, beq_self_eq_true, bne_self_eq_false]
    exact refs_j1 (l1 := l1) hr hn hh hi hp hnm hg (gm.2.1 _ (List.getElem_mem hi)).2
  · have hd : ∀ (i : Nat) (hi : i < l.length), placeI l n = (i : Int) → l[i].f3 = true := fun i hi hp => by
      cases hg : l[i].f3 with
      | true => rfl
      | false => exact absurd ⟨i, hi, hp, hg⟩ hlive
    have hc := hc2 hd
    obtain ⟨ls, li⟩ := load_dead hr hn hd
    refine Ev.bind li (Ev.bind ls (Ev.bind lvi (Ev.bind lvs (Ev.bind ci (Ev.bind cs ?_)))))
    simp only [if_true]
    refine Ev.bind (same_texts _ (by omega)) ?_
    simp only [if_true]
    refine Ev.bind (same_refs _ (by omega)) ?_
    simp only [if_true]
    refine Ev.bind (hr ▸ refsOK_ev l) ?_
    have hz : (code == 14) = false := beq_eq_false_iff_ne.mpr hc
    have hz2 : ((10 : Int) == 0) = false := by decide
    have hz3 : ¬ ((10 : Int) = 0) := by decide
    simp only [if_true, hz, hz2, bne_self_eq_false]
    refine Ev.at_ (c := 1) (fun k => ?_)
    simp only [laws_FnRefs.j1, Bool.false_eq_true, if_false, hz3]
end Go.Proofs.Ytkmjmgkpcomldaa.Pure
end
