/- Parts of the proof of the law FnExactScan, joined into one text. -/
import Derived.Test.YtcpljigliklgcaaMFnExactScan1
section
namespace Go.Proofs.Ytcpljigliklgcaa.Q
open Go.RowKit Go.Proofs.YtcpljigliklgcaaW.PrintWords Go.Proofs.YtcpljigliklgcaaW.PrintLast Go.Proofs.YtcpljigliklgcaaW.PrintMore
attribute [local go_sem] max2_int min2_int max_two min_two max_three min_three max_four min_four   -- for this text's walks alone
set_option linter.unusedVariables false
set_option linter.unusedSimpArgs false
attribute [local go_sem] bin_leq bin_gtr bin_geq
abbrev impl_MapOK.m0 : Array Bool := #[false, false, false, false, false, false, false, false, false, false, false, false, false, false, false, false, false, false, false, false, false, false, false, false, false]
abbrev impl_MapOK.m1 : Array Bool := #[true, false, false, false, false, false, false, false, false, false, false, false, false, false, false, false, false, false, false, false, false, false, false, false, false]
abbrev impl_MapOK.m2 : Array Bool := #[true, true, false, false, false, false, false, false, false, false, false, false, false, false, false, false, false, false, false, false, false, false, false, false, false]
abbrev impl_MapOK.m3 : Array Bool := #[true, true, true, false, false, false, false, false, false, false, false, false, false, false, false, false, false, false, false, false, false, false, false, false, false]
abbrev impl_MapOK.m4 : Array Bool := #[true, true, true, true, false, false, false, false, false, false, false, false, false, false, false, false, false, false, false, false, false, false, false, false, false]
abbrev impl_MapOK.m5 : Array Bool := #[true, true, true, true, true, false, false, false, false, false, false, false, false, false, false, false, false, false, false, false, false, false, false, false, false]
abbrev impl_MapOK.m6 : Array Bool := #[true, true, true, true, true, true, false, false, false, false, false, false, false, false, false, false, false, false, false, false, false, false, false, false, false]
abbrev impl_MapOK.m7 : Array Bool := #[true, true, true, true, true, true, true, false, false, false, false, false, false, false, false, false, false, false, false, false, false, false, false, false, false]
abbrev impl_MapOK.m8 : Array Bool := #[true, true, true, true, true, true, true, true, false, false, false, false, false, false, false, false, false, false, false, false, false, false, false, false, false]
abbrev impl_MapOK.m9 : Array Bool := #[true, true, true, true, true, true, true, true, true, false, false, false, false, false, false, false, false, false, false, false, false, false, false, false, false]
abbrev impl_MapOK.m10 : Array Bool := #[true, true, true, true, true, true, true, true, true, true, false, false, false, false, false, false, false, false, false, false, false, false, false, false, false]
abbrev impl_MapOK.m11 : Array Bool := #[true, true, true, true, true, true, true, true, true, true, true, false, false, false, false, false, false, false, false, false, false, false, false, false, false]
abbrev impl_MapOK.m12 : Array Bool := #[true, true, true, true, true, true, true, true, true, true, true, true, false, false, false, false, false, false, false, false, false, false, false, false, false]
abbrev impl_MapOK.m13 : Array Bool := #[true, true, true, true, true, true, true, true, true, true, true, true, true, false, false, false, false, false, false, false, false, false, false, false, false]
abbrev impl_MapOK.m14 : Array Bool := #[true, true, true, true, true, true, true, true, true, true, true, true, true, true, false, false, false, false, false, false, false, false, false, false, false]
abbrev impl_MapOK.m15 : Array Bool := #[true, true, true, true, true, true, true, true, true, true, true, true, true, true, true, false, false, false, false, false, false, false, false, false, false]
abbrev impl_MapOK.m16 : Array Bool := #[true, true, true, true, true, true, true, true, true, true, true, true, true, true, true, true, false, false, false, false, false, false, false, false, false]
abbrev impl_MapOK.m17 : Array Bool := #[true, true, true, true, true, true, true, true, true, true, true, true, true, true, true, true, true, false, false, false, false, false, false, false, false]
abbrev impl_MapOK.m18 : Array Bool := #[true, true, true, true, true, true, true, true, true, true, true, true, true, true, true, true, true, true, false, false, false, false, false, false, false]
abbrev impl_MapOK.m19 : Array Bool := #[true, true, true, true, true, true, true, true, true, true, true, true, true, true, true, true, true, true, true, false, false, false, false, false, false]
abbrev impl_MapOK.m20 : Array Bool := #[true, true, true, true, true, true, true, true, true, true, true, true, true, true, true, true, true, true, true, false, true, false, false, false, false]
abbrev impl_MapOK.m21 : Array Bool := #[true, true, true, true, true, true, true, true, true, true, true, true, true, true, true, true, true, true, true, true, true, false, false, false, false]
abbrev impl_MapOK.m22 : Array Bool := #[true, true, true, true, true, true, true, true, true, true, true, true, true, true, true, true, true, true, true, true, true, true, false, false, false]
abbrev impl_MapOK.m23 : Array Bool := #[true, true, true, true, true, true, true, true, true, true, true, true, true, true, true, true, true, true, true, true, true, true, true, false, false]
abbrev impl_MapOK.m24 : Array Bool := #[true, true, true, true, true, true, true, true, true, true, true, true, true, true, true, true, true, true, true, true, true, true, true, true, false]
abbrev impl_MapOK.m25 : Array Bool := #[true, true, true, true, true, true, true, true, true, true, true, true, true, true, true, true, true, true, true, true, true, true, true, true, true]
abbrev impl_MapOK.m26 : Array Bool := #[true, true, true, true, true, true, true, true, true, true, true, true, true, true, true, true, true, true, true, true, false, false, false, false, false]
def impl_MapOK.l0 : Nat → List (S51) → List (S51) → Int → Int → Option (Bool)
  | 0, _, _, _, _ => none
  | k + 1, x0, x5, x6, x7 => if x7 < x6 then (if 0 ≤ x7 then (if x7 < (x5.length : Int) then ((impl_NameOK.f ((rd_T51 x5 x7).f0)).bind fun t159 => (if t159 = true then ((impl_isValue.f ((rd_T51 x5 x7).f1)).bind fun t160 => (if t160 = true then (if x7 > 0 then (if 0 ≤ (wrap64 (x7 - 1)) then (if (wrap64 (x7 - 1)) < (x0.length : Int) then (if ((Op.bytesLess (((rd_T51 x0 (wrap64 (x7 - 1))).f0).toList) (((rd_T51 x5 x7).f0).toList)) = true) then (impl_MapOK.l0 k x0 x5 x6 (wrap64 (x7 + 1))) else (some false)) else (none)) else (none)) else (impl_MapOK.l0 k x0 x5 x6 (wrap64 (x7 + 1)))) else (some false))) else (some false))) else (none)) else (none)) else (some (decide ((x0.length : Int) ≤ 12)))
def impl_MapOK.f (k : Nat) (l0 : List (S51)) : Option (Bool) := impl_MapOK.l0 k l0 l0 (l0.length : Int) 0
def impl_MapOK.T4 : Bool × List (List Nat × List Nat) := (true, [([], []), ([0], [0]), ([1], [1]), ([2], [2]), ([3, 2], [3]), ([4], [4]), ([5, 4], [4, 5]), ([6, 4, 4], [4, 6]), ([7, 4], [4, 7]), ([4, 8], [4, 8]), ([9, 7], [9]), ([10], [10]), ([11, 10], [10, 11]), ([12, 10, 10], [10, 12]), ([13], [13]), ([13], [13]), ([15, 13], [13, 15]), ([14, 16, 13], [13, 14, 16]), ([17, 13], [13, 17]), ([18, 13], [13, 18]), ([13], [13]), ([20, 13], [13, 20]), ([19, 21, 13], [13, 19, 21]), ([13, 22, 10], [10, 13, 22]), ([10, 23], [10, 23])])
def impl_MapOK.B4 : List Nat := [0, 1, 3, 7, 15, 31, 63, 127, 255, 511, 1023, 2047, 4095, 8191, 16383, 16383, 49151, 131071, 262143, 524287, 16383, 1064959, 4194303, 8388607, 16777215]
theorem impl_MapOK.tab4 : rtab .any (opsOf Try.f37 4) = impl_MapOK.T4 := by kernel_rfl
theorem impl_MapOK.bits4 : waitsOk impl_MapOK.T4.2 impl_MapOK.B4 = true := by kernel_rfl
set_option maxHeartbeats 8000000 in
set_option maxRecDepth 100000 in
theorem impl_MapOK.calls (k : Nat) (A0 : Option Addr) (c0 : Nat) (l0 : List (S51)) (r : Bool) (w : World) (hr0 : Kd.C k51 w A0 l0.length l0) (hc0 : l0.length ≤ c0) (h : impl_MapOK.f k l0 = some r) :
    Calls Try.prog 37 #[.slice A0 l0.length c0] w fun e w' => e = .returned (.bool r) ∧ Below w.heap.size w w' := by
  have hu51 := Try.underlying51
  have HR0 := Aside0.mk hr0
  have HC0 := Aside0.mk hc0
  clear hr0 hc0
  have HB := Aside0.mk (Below.refl w.heap.size w)
  have H : (impl_MapOK.l0 k l0 l0 (l0.length : Int) 0) = some r := h
  clear h
  have H' := Aside0.mk H
  clear H
  go_enter Try.func37, Try.ntmps37
  go_wp2
  go_loopg [7] k (fun kq v7 w' => ∃ (x7_1 : Int), v7 = .int .i64 x7_1 ∧ Aside0 (impl_MapOK.l0 kq l0 l0 (l0.length : Int) x7_1 = some r) ∧ Aside0 (kq ≤ k) ∧ Aside0 (Below w.heap.size w w'))
  case atStart => exact ⟨(0), vE, H', ⟨Nat.le_refl _⟩, ⟨bW⟩⟩
  case round =>
    clear H'
    obtain ⟨x7_1, rfl, HA, HK1, HB⟩ := hrel
    cases gk with
    | zero => exact absurd HA.out (by simp [impl_MapOK.l0])
    | succ k1 =>
      have H := HA.out
      clear HA
      simp only [impl_MapOK.l0] at H
      by_cases c2 : x7_1 < (l0.length : Int)
      · rw [if_pos c2] at H
        have c2b0 : decide (x7_1 < (l0.length : Int)) = true := decide_eq_true c2
        clear c2
        by_cases c3 : 0 ≤ x7_1
        · rw [if_pos c3] at H
          have c3b0 : decide (0 ≤ x7_1) = true := decide_eq_true c3
          clear c3
          by_cases c4 : x7_1 < (l0.length : Int)
          · rw [if_pos c4] at H
            have c4b0 : decide (x7_1 < (l0.length : Int)) = true := decide_eq_true c4
            clear c4
            replace H := Option.bind_eq_some_iff.mp H
            obtain ⟨t159, A50, H⟩ := H
            replace H : (if t159 = true then ((impl_isValue.f ((rd_T51 l0 x7_1).f1)).bind fun t160 => (if t160 = true then (if x7_1 > 0 then (if 0 ≤ (wrap64 (x7_1 - 1)) then (if (wrap64 (x7_1 - 1)) < (l0.length : Int) then (if ((Op.bytesLess (((rd_T51 l0 (wrap64 (x7_1 - 1))).f0).toList) (((rd_T51 l0 x7_1).f0).toList)) = true) then (impl_MapOK.l0 k1 l0 l0 (l0.length : Int) (wrap64 (x7_1 + 1))) else (some false)) else (none)) else (none)) else (impl_MapOK.l0 k1 l0 l0 (l0.length : Int) (wrap64 (x7_1 + 1)))) else (some false))) else (some false)) = some r := H
            have A5 := Aside0.mk A50
            clear A50
            by_cases c6 : t159 = true
            · subst c6
              have H1 : ((impl_isValue.f ((rd_T51 l0 x7_1).f1)).bind fun t160 => (if t160 = true then (if x7_1 > 0 then (if 0 ≤ (wrap64 (x7_1 - 1)) then (if (wrap64 (x7_1 - 1)) < (l0.length : Int) then (if ((Op.bytesLess (((rd_T51 l0 (wrap64 (x7_1 - 1))).f0).toList) (((rd_T51 l0 x7_1).f0).toList)) = true) then (impl_MapOK.l0 k1 l0 l0 (l0.length : Int) (wrap64 (x7_1 + 1))) else (some false)) else (none)) else (none)) else (impl_MapOK.l0 k1 l0 l0 (l0.length : Int) (wrap64 (x7_1 + 1)))) else (some false))) = some r := by rw [if_pos rfl] at H; exact H
              clear H
              have H := H1
              clear H1
              replace H := Option.bind_eq_some_iff.mp H
              obtain ⟨t160, A70, H⟩ := H
              replace H : (if t160 = true then (if x7_1 > 0 then (if 0 ≤ (wrap64 (x7_1 - 1)) then (if (wrap64 (x7_1 - 1)) < (l0.length : Int) then (if ((Op.bytesLess (((rd_T51 l0 (wrap64 (x7_1 - 1))).f0).toList) (((rd_T51 l0 x7_1).f0).toList)) = true) then (impl_MapOK.l0 k1 l0 l0 (l0.length : Int) (wrap64 (x7_1 + 1))) else (some false)) else (none)) else (none)) else (impl_MapOK.l0 k1 l0 l0 (l0.length : Int) (wrap64 (x7_1 + 1)))) else (some false)) = some r := H
              have A7 := Aside0.mk A70
              clear A70
              by_cases c8 : t160 = true
              · subst c8
                have H1 : (if x7_1 > 0 then (if 0 ≤ (wrap64 (x7_1 - 1)) then (if (wrap64 (x7_1 - 1)) < (l0.length : Int) then (if ((Op.bytesLess (((rd_T51 l0 (wrap64 (x7_1 - 1))).f0).toList) (((rd_T51 l0 x7_1).f0).toList)) = true) then (impl_MapOK.l0 k1 l0 l0 (l0.length : Int) (wrap64 (x7_1 + 1))) else (some false)) else (none)) else (none)) else (impl_MapOK.l0 k1 l0 l0 (l0.length : Int) (wrap64 (x7_1 + 1)))) = some r := by rw [if_pos rfl] at H; exact H
                clear H
                have H := H1
                clear H1
                by_cases c9 : x7_1 > 0
                · rw [if_pos c9] at H
                  have c9b0 : decide (0 < x7_1) = true := decide_eq_true c9
                  clear c9
                  obtain ⟨ji10, hji10⟩ : ∃ j_ : Int, (wrap64 (x7_1 - 1)) = j_ := ⟨_, rfl⟩
                  replace H : (if 0 ≤ (ji10) then (if (ji10) < (l0.length : Int) then (if ((Op.bytesLess (((rd_T51 l0 (ji10)).f0).toList) (((rd_T51 l0 x7_1).f0).toList)) = true) then (impl_MapOK.l0 k1 l0 l0 (l0.length : Int) (wrap64 (x7_1 + 1))) else (some false)) else (none)) else (none)) = some r := by first | (rw [hji10] at H; exact H) | (simp only [hji10] at H ⊢; exact H)
                  (try rw [hji10] at A5)
                  (try rw [hji10] at A7)
                  have hji10w : (IntKind.i64.wrap (x7_1 - 1)) = ji10 := (i64_w _).trans hji10
                  by_cases c11 : 0 ≤ (ji10)
                  · rw [if_pos c11] at H
                    have c11b0 : decide (0 ≤ (ji10)) = true := decide_eq_true c11
                    clear c11
                    by_cases c12 : (ji10) < (l0.length : Int)
                    · rw [if_pos c12] at H
                      have c12b0 : decide ((ji10) < (l0.length : Int)) = true := decide_eq_true c12
                      clear c12
                      by_cases c13 : ((Op.bytesLess (((rd_T51 l0 (ji10)).f0).toList) (((rd_T51 l0 x7_1).f0).toList)) = true)
                      · rw [if_pos c13] at H
                        have c13b0 : (Op.bytesLess (((rd_T51 l0 (ji10)).f0).toList) (((rd_T51 l0 x7_1).f0).toList)) = true := c13
                        clear c13
                        have H' := Aside0.mk H
                        clear H
                        have p157 : 0 ≤ (x7_1 : Int) := odt
                        have q157 : x7_1 < (l0.length : Int) := odt
                        obtain ⟨ad157, e157, hx157_0, hx157_1⟩ := at_T51 HR0.out x7_1 p157 q157
                        cases e157
                        replace hx157_0 := (HB.out.cell (World.block_lt_of_cell? w _ hx157_0)).trans hx157_0
                        replace hx157_1 := (HB.out.cell (World.block_lt_of_cell? w _ hx157_1)).trans hx157_1
                        replace p157 := eq_true p157
                        replace q157 := eq_true q157
                        try go_wp2_with (first | ((with_reducible refine gate_dst (N := 4) rfl ?_); refine bE (N := 4) (cs := #[.string (⟨#[]⟩ : ByteArray), .int .i64 0]) (t := 51) ?_; intro gb158 hg w14 hbox hb; have n0_ := Aside0.mk (below_step (w := w) bW hb); have n1_ := Aside0.mk (hbox); have n2_ := Aside0.mk (gS (w := w) hg); have n3_ := n2_; clear HB; have HB := n0_; have BK158 := n1_; have GW158 := n2_; have GE158 := n3_; clear n0_ n1_ n2_ n3_; clear hb hbox hg; obtain ⟨hcz15_0, hcz15_1⟩ := cz2 BK158; obtain ⟨hfz15_0, hfz15_1⟩ := fz2 BK158))
                        have n0_ : Aside0 (((w14.setCell ⟨gb158, 0, none⟩ (.string ((rd_T51 l0 x7_1).f0))).setCell ⟨gb158, 1, none⟩ (.int .i64 ((rd_T51 l0 x7_1).f1))).heap[gb158]? = some (.cells #[.string ((rd_T51 l0 x7_1).f0), .int .i64 ((rd_T51 l0 x7_1).f1)] 51 (0, 0))) := ⟨by (with_reducible repeat (first | refine blk_drewN ?_ _ | refine blk_drew ?_ | refine blk_alloc ?_ _)); refine blk_put (cs := #[.string ((rd_T51 l0 x7_1).f0), .int .i64 0]) ?_ 1 _ rfl; (with_reducible repeat (first | refine blk_drewN ?_ _ | refine blk_drew ?_ | refine blk_alloc ?_ _)); refine blk_put (cs := #[.string (⟨#[]⟩ : ByteArray), .int .i64 0]) ?_ 0 _ rfl; (with_reducible repeat (first | refine blk_drewN ?_ _ | refine blk_drew ?_ | refine blk_alloc ?_ _)); exact BK158.out⟩
                        have n1_ : Aside0 (Below w.heap.size w ((w14.setCell ⟨gb158, 0, none⟩ (.string ((rd_T51 l0 x7_1).f0))).setCell ⟨gb158, 1, none⟩ (.int .i64 ((rd_T51 l0 x7_1).f1)))) := ⟨bW⟩
                        (try clear BK158)
                        (try clear HB)
                        generalize ((w14.setCell ⟨gb158, 0, none⟩ (.string ((rd_T51 l0 x7_1).f0))).setCell ⟨gb158, 1, none⟩ (.int .i64 ((rd_T51 l0 x7_1).f1))) = w16 at n0_ n1_ ⊢
                        have BK158 := n0_
                        have HB := n1_
                        clear n0_ n1_
                        have n0_ := Aside0.mk (blk_drew BK158.out)
                        have n1_ := Aside0.mk (below_drew1 HB.out)
                        clear BK158
                        clear HB
                        have BK158 := n0_
                        have HB := n1_
                        clear n0_ n1_
                        have p161 : 0 ≤ ((ji10) : Int) := odt
                        have q161 : (ji10) < (l0.length : Int) := odt
                        obtain ⟨ad161, e161, hx161_0, hx161_1⟩ := at_T51 HR0.out (ji10) p161 q161
                        have hw161_1 := hx161_1
                        have hw161_0 := hx161_0
                        obtain rfl : ad157 = ad161 := (by injection e161)
                        replace hx161_0 := (HB.out.cell (World.block_lt_of_cell? w _ hx161_0)).trans hx161_0
                        replace hx161_1 := (HB.out.cell (World.block_lt_of_cell? w _ hx161_1)).trans hx161_1
                        replace p161 := eq_true p161
                        replace q161 := eq_true q161
                        refine start_ (n := 25) (S := fun w' => w'.cell? ⟨gb158, 0, none⟩ = some (.string ((rd_T51 l0 x7_1).f0)) ∧ w'.cell? ⟨gb158, 1, none⟩ = some (.int .i64 ((rd_T51 l0 x7_1).f1)) ∧ w'.cell? (ad157.add (((ji10)).toNat * 2)) = some (.string ((rd_T51 l0 (ji10)).f0)) ∧ w'.cell? ⟨(ad157.add (((ji10)).toNat * 2)).block, (ad157.add (((ji10)).toNat * 2)).off + 1, none⟩ = some (.int .i64 ((rd_T51 l0 (ji10)).f1))) (ds := []) impl_MapOK.m0 (by kernel_rfl) rfl rfl ⟨(blk_cell BK158.out 0).trans rfl, (blk_cell BK158.out 1).trans rfl, ((HB.out.cell (World.block_lt_of_cell? w _ hw161_0)).trans hw161_0), ((HB.out.cell (World.block_lt_of_cell? w _ hw161_1)).trans hw161_1)⟩ (fun hHeld => ?_); refine with_tabW impl_MapOK.tab4 impl_MapOK.bits4 (fun HT_ HW_ => ?_)
                        generalize w16.drew = w17 at BK158 HB hx161_0 hx161_1 hHeld ⊢
                        refine pure_ (i := 0) (N := some 12) (v := ?_) (a' := ?_) impl_MapOK.m1 rfl rfl (any_of HT_.out (by kernel_rfl)) (fun _ _ _ h => h) (Or.inl ⟨by rfl, ?_⟩) ?_ ?_; rotate_left; (focus intro w'; go_simp; with_reducible rfl); rotate_left; (focus simp only [pt, i64_w, i32_w]; rfl)
                        refine take_ (i := 1) (N := some 13) (v := ?_) (a' := ?_) impl_MapOK.m2 rfl rfl (take_ofW HT_.out HW_.out (by kernel_rfl)) (fun _ _ _ h => h) (Or.inl ⟨by rfl, ?_⟩) hHeld ?_ ?_; rotate_left; (focus rintro w' ⟨s0, s1, s2, s3⟩; go_simp; with_reducible rfl); rotate_left; (focus simp only [pt, i64_w, i32_w]; rfl)
                        refine one_ (i := 2) (N := some 14) impl_MapOK.m3 rfl rfl (one_of HT_.out (by kernel_rfl)) (by decide) (fun K hK => ?_)
                        refine goes_ Try.func110 (by kernel_rfl) rfl #[.string ((rd_T51 l0 x7_1).f0)] (by rfl) rfl rfl gA ?_
                        with_reducible refine (impl_NameOK.calls ((rd_T51 l0 x7_1).f0) true _ A5.out).mono ?_
                        rintro e w18 ⟨rfl, hb⟩
                        refine ⟨_, rfl, ?_⟩
                        have n0_ := Aside0.mk (kb BK158 hb)
                        have n1_ := Aside0.mk (below_step (w := w) bW hb)
                        clear BK158
                        clear HB
                        have BK158 := n0_
                        have HB := n1_
                        clear n0_ n1_
                        (try clear hb)
                        (try clear hb2)
                        (try clear hk)
                        (try clear hi)
                        refine hK.out _ _ ⟨(blk_cell BK158.out 0).trans rfl, (blk_cell BK158.out 1).trans rfl, ((HB.out.cell (World.block_lt_of_cell? w _ hw161_0)).trans hw161_0), ((HB.out.cell (World.block_lt_of_cell? w _ hw161_1)).trans hw161_1)⟩ (fun hHeld => ?_)
                        clear hK K
                        refine norm_ (a' := ?_) ?_ ?_
                        rotate_left
                        · show Act.put _ (some 14) _ = _
                          simp only [Act.put, List.setIfInBounds_toArray, List.set_cons_zero, List.set_cons_succ, i64_w, i32_w]
                          rfl
                        refine pure_ (i := 3) (N := some 15) (v := ?_) (a' := ?_) impl_MapOK.m4 rfl rfl (any_of HT_.out (by kernel_rfl)) (fun _ _ _ h => h) (Or.inl ⟨by rfl, ?_⟩) ?_ ?_; rotate_left; (focus intro w'; go_simp; with_reducible rfl); rotate_left; (focus simp only [pt, i64_w, i32_w]; rfl)
                        refine pure_ (i := 4) (N := some 16) (v := ?_) (a' := ?_) impl_MapOK.m5 rfl rfl (any_of HT_.out (by kernel_rfl)) (fun _ _ _ h => h) (Or.inl ⟨by rfl, ?_⟩) ?_ ?_; rotate_left; (focus intro w'; go_simp; with_reducible rfl); rotate_left; (focus simp only [pt, i64_w, i32_w]; rfl)
                        refine pure_ (i := 5) (N := some 17) (v := ?_) (a' := ?_) impl_MapOK.m6 rfl rfl (any_of HT_.out (by kernel_rfl)) (fun _ _ _ h => h) (Or.inl ⟨by rfl, ?_⟩) ?_ ?_; rotate_left; (focus intro w'; go_simp; with_reducible rfl); rotate_left; (focus simp only [pt, i64_w, i32_w]; rfl)
                        refine take_ (i := 6) (N := some 18) (v := ?_) (a' := ?_) impl_MapOK.m7 rfl rfl (take_ofW HT_.out HW_.out (by kernel_rfl)) (fun _ _ _ h => h) (Or.inl ⟨by rfl, ?_⟩) hHeld ?_ ?_; rotate_left; (focus rintro w' ⟨s0, s1, s2, s3⟩; go_simp; with_reducible rfl); rotate_left; (focus simp only [pt, i64_w, i32_w]; rfl)
                        refine one_ (i := 7) (N := some 19) impl_MapOK.m8 rfl rfl (one_of HT_.out (by kernel_rfl)) (by decide) (fun K hK => ?_)
                        refine goes_ Try.func86 (by kernel_rfl) rfl #[.int .i64 ((rd_T51 l0 x7_1).f1)] (by rfl) rfl rfl gA ?_
                        with_reducible refine (impl_isValue.calls ((rd_T51 l0 x7_1).f1) true _ A7.out).mono ?_
                        rintro e w' ⟨rfl, ⟨nd, rfl⟩⟩
                        refine ⟨_, rfl, ?_⟩
                        refine hK.out _ _ ⟨(blk_cell BK158.out 0).trans rfl, (blk_cell BK158.out 1).trans rfl, ((HB.out.cell (World.block_lt_of_cell? w _ hw161_0)).trans hw161_0), ((HB.out.cell (World.block_lt_of_cell? w _ hw161_1)).trans hw161_1)⟩ (fun hHeld => ?_)
                        clear hK K
                        refine norm_ (a' := ?_) ?_ ?_
                        rotate_left
                        · show Act.put _ (some 19) _ = _
                          simp only [Act.put, List.setIfInBounds_toArray, List.set_cons_zero, List.set_cons_succ, i64_w, i32_w]
                          rfl
                        refine pure_ (i := 8) (N := some 20) (v := ?_) (a' := ?_) impl_MapOK.m9 rfl rfl (any_of HT_.out (by kernel_rfl)) (fun _ _ _ h => h) (Or.inl ⟨by rfl, ?_⟩) ?_ ?_; rotate_left; (focus intro w'; go_simp; with_reducible rfl); rotate_left; (focus simp only [pt, i64_w, i32_w]; rfl)
                        refine pure_ (i := 9) (N := some 21) (v := ?_) (a' := ?_) impl_MapOK.m10 rfl rfl (any_of HT_.out (by kernel_rfl)) (fun _ _ _ h => h) (Or.inl ⟨by rfl, ?_⟩) ?_ ?_; rotate_left; (focus intro w'; go_simp; with_reducible rfl); rotate_left; (focus simp only [pt, i64_w, i32_w]; rfl)
                        refine pure_ (i := 10) (N := some 22) (v := ?_) (a' := ?_) impl_MapOK.m11 rfl rfl (any_of HT_.out (by kernel_rfl)) (fun _ _ _ h => h) (Or.inl ⟨by rfl, ?_⟩) ?_ ?_; rotate_left; (focus intro w'; go_simp; with_reducible rfl); rotate_left; (focus simp only [pt, i64_w, i32_w]; rfl)
                        refine pure_ (i := 11) (N := some 23) (v := ?_) (a' := ?_) impl_MapOK.m12 rfl rfl (any_of HT_.out (by kernel_rfl)) (fun _ _ _ h => h) (Or.inl ⟨by rfl, ?_⟩) ?_ ?_; rotate_left; (focus intro w'; go_simp; with_reducible rfl); rotate_left; (focus simp only [pt, i64_w, i32_w]; rfl)
                        refine pure_ (i := 12) (N := some 24) (v := ?_) (a' := ?_) impl_MapOK.m13 rfl rfl (any_of HT_.out (by kernel_rfl)) (fun _ _ _ h => h) (Or.inl ⟨by rfl, ?_⟩) ?_ ?_; rotate_left; (focus intro w'; go_simp; with_reducible rfl); rotate_left; (focus simp only [pt, i64_w, i32_w]; rfl)
                        refine pure_ (i := 13) (N := some 25) (v := ?_) (a' := ?_) impl_MapOK.m14 rfl rfl (any_of HT_.out (by kernel_rfl)) (fun _ _ _ h => h) (Or.inl ⟨by rfl, ?_⟩) ?_ ?_; rotate_left; (focus intro w'; go_simp; with_reducible rfl); rotate_left; (focus simp only [pt, i64_w, i32_w]; rfl)
                        refine pure_ (i := 14) (N := some 26) (v := ?_) (a' := ?_) impl_MapOK.m15 rfl rfl (any_of HT_.out (by kernel_rfl)) (fun _ _ _ h => h) (Or.inl ⟨by rfl, ?_⟩) ?_ ?_; rotate_left; (focus intro w'; go_simp; with_reducible rfl); rotate_left; (focus simp only [pt, i64_w, i32_w]; rfl)
                        refine pure_ (i := 15) (N := some 27) (v := ?_) (a' := ?_) impl_MapOK.m16 rfl rfl (any_of HT_.out (by kernel_rfl)) (fun _ _ _ h => h) (Or.inl ⟨by rfl, ?_⟩) ?_ ?_; rotate_left; (focus intro w'; go_simp; with_reducible rfl); rotate_left; (focus simp only [pt, i64_w, i32_w]; rfl)
                        refine pure_ (i := 16) (N := some 28) (v := ?_) (a' := ?_) impl_MapOK.m17 rfl rfl (any_of HT_.out (by kernel_rfl)) (fun _ _ _ h => h) (Or.inl ⟨by rfl, ?_⟩) ?_ ?_; rotate_left; (focus intro w'; go_simp; with_reducible rfl); rotate_left; (focus simp only [pt, i64_w, i32_w]; rfl)
                        refine pure_ (i := 17) (N := some 29) (v := ?_) (a' := ?_) impl_MapOK.m18 rfl rfl (any_of HT_.out (by kernel_rfl)) (fun _ _ _ h => h) (Or.inl ⟨by rfl, ?_⟩) ?_ ?_; rotate_left; (focus intro w'; go_simp; with_reducible rfl); rotate_left; (focus simp only [pt, i64_w, i32_w]; rfl)
                        refine pure_ (i := 18) (N := some 30) (v := ?_) (a' := ?_) impl_MapOK.m19 rfl rfl (any_of HT_.out (by kernel_rfl)) (fun _ _ _ h => h) (Or.inl ⟨by rfl, ?_⟩) ?_ ?_; rotate_left; (focus intro w'; go_simp; with_reducible rfl); rotate_left; (focus simp only [pt, i64_w, i32_w]; rfl)
                        refine pure_ (i := 20) (N := some 32) (v := ?_) (a' := ?_) impl_MapOK.m20 rfl rfl (any_of HT_.out (by kernel_rfl)) (fun _ _ _ h => h) (Or.inl ⟨by rfl, ?_⟩) ?_ ?_; rotate_left; (focus intro w'; go_simp; with_reducible rfl); rotate_left; (focus simp only [pt, i64_w, i32_w]; rfl)
                        refine take_ (i := 19) (N := some 31) (v := ?_) (a' := ?_) impl_MapOK.m21 rfl rfl (take_ofW HT_.out HW_.out (by kernel_rfl)) (fun _ _ _ h => h) (Or.inl ⟨by rfl, ?_⟩) hHeld ?_ ?_; rotate_left; (focus rintro w' ⟨s0, s1, s2, s3⟩; go_simp; with_reducible rfl); rotate_left; (focus simp only [pt, i64_w, i32_w]; rfl)
                        refine take_ (i := 21) (N := some 33) (v := ?_) (a' := ?_) impl_MapOK.m22 rfl rfl (take_ofW HT_.out HW_.out (by kernel_rfl)) (fun _ _ _ h => h) (Or.inl ⟨by rfl, ?_⟩) hHeld ?_ ?_; rotate_left; (focus rintro w' ⟨s0, s1, s2, s3⟩; go_simp; with_reducible rfl); rotate_left; (focus simp only [pt, i64_w, i32_w]; rfl)
                        refine pure_ (i := 22) (N := some 34) (v := ?_) (a' := ?_) impl_MapOK.m23 rfl rfl (any_of HT_.out (by kernel_rfl)) (fun _ _ _ h => h) (Or.inl ⟨by rfl, ?_⟩) ?_ ?_; rotate_left; (focus intro w'; go_simp; with_reducible rfl); rotate_left; (focus simp only [pt, i64_w, i32_w]; rfl)
                        refine pure_ (i := 23) (N := some 35) (v := ?_) (a' := ?_) impl_MapOK.m24 rfl rfl (any_of HT_.out (by kernel_rfl)) (fun _ _ _ h => h) (Or.inl ⟨by rfl, ?_⟩) ?_ ?_; rotate_left; (focus intro w'; go_simp; with_reducible rfl); rotate_left; (focus simp only [pt, i64_w, i32_w]; rfl)
                        refine pure_ (i := 24) (N := some 36) (v := ?_) (a' := ?_) impl_MapOK.m25 rfl rfl (any_of HT_.out (by kernel_rfl)) (fun _ _ _ h => h) (Or.inl ⟨by rfl, ?_⟩) ?_ ?_; rotate_left; (focus intro w'; go_simp; with_reducible rfl); rotate_left; (focus simp only [pt, i64_w, i32_w]; rfl)
                        refine done_ (done_of HT_.out (by kernel_rfl)) ?_
                        try go_wp2
                        go_roundg k1
                        case measure => have := HK1.out; omega
                        case rel => exact ⟨(wrap64 (x7_1 + 1)), vE, H', ⟨by have := HK1.out; omega⟩, ⟨bW⟩⟩
                      · rw [if_neg c13] at H
                        have c13b0 : (Op.bytesLess (((rd_T51 l0 (ji10)).f0).toList) (((rd_T51 l0 x7_1).f0).toList)) = false := by simpa using c13
                        clear c13
                        obtain rfl := Option.some.inj H
                        have p157 : 0 ≤ (x7_1 : Int) := odt
                        have q157 : x7_1 < (l0.length : Int) := odt
                        obtain ⟨ad157, e157, hx157_0, hx157_1⟩ := at_T51 HR0.out x7_1 p157 q157
                        cases e157
                        replace hx157_0 := (HB.out.cell (World.block_lt_of_cell? w _ hx157_0)).trans hx157_0
                        replace hx157_1 := (HB.out.cell (World.block_lt_of_cell? w _ hx157_1)).trans hx157_1
                        replace p157 := eq_true p157
                        replace q157 := eq_true q157
                        try go_wp2_with (first | ((with_reducible refine gate_dst (N := 4) rfl ?_); refine bE (N := 4) (cs := #[.string (⟨#[]⟩ : ByteArray), .int .i64 0]) (t := 51) ?_; intro gb158 hg w19 hbox hb; have n0_ := Aside0.mk (below_step (w := w) bW hb); have n1_ := Aside0.mk (hbox); have n2_ := Aside0.mk (gS (w := w) hg); have n3_ := n2_; clear HB; have HB := n0_; have BK158 := n1_; have GW158 := n2_; have GE158 := n3_; clear n0_ n1_ n2_ n3_; clear hb hbox hg; obtain ⟨hcz20_0, hcz20_1⟩ := cz2 BK158; obtain ⟨hfz20_0, hfz20_1⟩ := fz2 BK158))
                        have n0_ : Aside0 (((w19.setCell ⟨gb158, 0, none⟩ (.string ((rd_T51 l0 x7_1).f0))).setCell ⟨gb158, 1, none⟩ (.int .i64 ((rd_T51 l0 x7_1).f1))).heap[gb158]? = some (.cells #[.string ((rd_T51 l0 x7_1).f0), .int .i64 ((rd_T51 l0 x7_1).f1)] 51 (0, 0))) := ⟨by (with_reducible repeat (first | refine blk_drewN ?_ _ | refine blk_drew ?_ | refine blk_alloc ?_ _)); refine blk_put (cs := #[.string ((rd_T51 l0 x7_1).f0), .int .i64 0]) ?_ 1 _ rfl; (with_reducible repeat (first | refine blk_drewN ?_ _ | refine blk_drew ?_ | refine blk_alloc ?_ _)); refine blk_put (cs := #[.string (⟨#[]⟩ : ByteArray), .int .i64 0]) ?_ 0 _ rfl; (with_reducible repeat (first | refine blk_drewN ?_ _ | refine blk_drew ?_ | refine blk_alloc ?_ _)); exact BK158.out⟩
                        have n1_ : Aside0 (Below w.heap.size w ((w19.setCell ⟨gb158, 0, none⟩ (.string ((rd_T51 l0 x7_1).f0))).setCell ⟨gb158, 1, none⟩ (.int .i64 ((rd_T51 l0 x7_1).f1)))) := ⟨bW⟩
                        (try clear BK158)
                        (try clear HB)
                        generalize ((w19.setCell ⟨gb158, 0, none⟩ (.string ((rd_T51 l0 x7_1).f0))).setCell ⟨gb158, 1, none⟩ (.int .i64 ((rd_T51 l0 x7_1).f1))) = w21 at n0_ n1_ ⊢
                        have BK158 := n0_
                        have HB := n1_
                        clear n0_ n1_
                        have n0_ := Aside0.mk (blk_drew BK158.out)
                        have n1_ := Aside0.mk (below_drew1 HB.out)
                        clear BK158
                        clear HB
                        have BK158 := n0_
                        have HB := n1_
                        clear n0_ n1_
                        have p161 : 0 ≤ ((ji10) : Int) := odt
                        have q161 : (ji10) < (l0.length : Int) := odt
                        obtain ⟨ad161, e161, hx161_0, hx161_1⟩ := at_T51 HR0.out (ji10) p161 q161
                        have hw161_1 := hx161_1
                        have hw161_0 := hx161_0
                        obtain rfl : ad157 = ad161 := (by injection e161)
                        replace hx161_0 := (HB.out.cell (World.block_lt_of_cell? w _ hx161_0)).trans hx161_0
                        replace hx161_1 := (HB.out.cell (World.block_lt_of_cell? w _ hx161_1)).trans hx161_1
                        replace p161 := eq_true p161
                        replace q161 := eq_true q161
                        refine start_ (n := 25) (S := fun w' => w'.cell? ⟨gb158, 0, none⟩ = some (.string ((rd_T51 l0 x7_1).f0)) ∧ w'.cell? ⟨gb158, 1, none⟩ = some (.int .i64 ((rd_T51 l0 x7_1).f1)) ∧ w'.cell? (ad157.add (((ji10)).toNat * 2)) = some (.string ((rd_T51 l0 (ji10)).f0)) ∧ w'.cell? ⟨(ad157.add (((ji10)).toNat * 2)).block, (ad157.add (((ji10)).toNat * 2)).off + 1, none⟩ = some (.int .i64 ((rd_T51 l0 (ji10)).f1))) (ds := []) impl_MapOK.m0 (by kernel_rfl) rfl rfl ⟨(blk_cell BK158.out 0).trans rfl, (blk_cell BK158.out 1).trans rfl, ((HB.out.cell (World.block_lt_of_cell? w _ hw161_0)).trans hw161_0), ((HB.out.cell (World.block_lt_of_cell? w _ hw161_1)).trans hw161_1)⟩ (fun hHeld => ?_); refine with_tabW impl_MapOK.tab4 impl_MapOK.bits4 (fun HT_ HW_ => ?_)
                        generalize w21.drew = w22 at BK158 HB hx161_0 hx161_1 hHeld ⊢
                        refine pure_ (i := 0) (N := some 12) (v := ?_) (a' := ?_) impl_MapOK.m1 rfl rfl (any_of HT_.out (by kernel_rfl)) (fun _ _ _ h => h) (Or.inl ⟨by rfl, ?_⟩) ?_ ?_; rotate_left; (focus intro w'; go_simp; with_reducible rfl); rotate_left; (focus simp only [pt, i64_w, i32_w]; rfl)
                        refine take_ (i := 1) (N := some 13) (v := ?_) (a' := ?_) impl_MapOK.m2 rfl rfl (take_ofW HT_.out HW_.out (by kernel_rfl)) (fun _ _ _ h => h) (Or.inl ⟨by rfl, ?_⟩) hHeld ?_ ?_; rotate_left; (focus rintro w' ⟨s0, s1, s2, s3⟩; go_simp; with_reducible rfl); rotate_left; (focus simp only [pt, i64_w, i32_w]; rfl)
                        refine one_ (i := 2) (N := some 14) impl_MapOK.m3 rfl rfl (one_of HT_.out (by kernel_rfl)) (by decide) (fun K hK => ?_)
                        refine goes_ Try.func110 (by kernel_rfl) rfl #[.string ((rd_T51 l0 x7_1).f0)] (by rfl) rfl rfl gA ?_
                        with_reducible refine (impl_NameOK.calls ((rd_T51 l0 x7_1).f0) true _ A5.out).mono ?_
                        rintro e w23 ⟨rfl, hb⟩
                        refine ⟨_, rfl, ?_⟩
                        have n0_ := Aside0.mk (kb BK158 hb)
                        have n1_ := Aside0.mk (below_step (w := w) bW hb)
                        clear BK158
                        clear HB
                        have BK158 := n0_
                        have HB := n1_
                        clear n0_ n1_
                        (try clear hb)
                        (try clear hb2)
                        (try clear hk)
                        (try clear hi)
                        refine hK.out _ _ ⟨(blk_cell BK158.out 0).trans rfl, (blk_cell BK158.out 1).trans rfl, ((HB.out.cell (World.block_lt_of_cell? w _ hw161_0)).trans hw161_0), ((HB.out.cell (World.block_lt_of_cell? w _ hw161_1)).trans hw161_1)⟩ (fun hHeld => ?_)
                        clear hK K
                        refine norm_ (a' := ?_) ?_ ?_
                        rotate_left
                        · show Act.put _ (some 14) _ = _
                          simp only [Act.put, List.setIfInBounds_toArray, List.set_cons_zero, List.set_cons_succ, i64_w, i32_w]
                          rfl
                        refine pure_ (i := 3) (N := some 15) (v := ?_) (a' := ?_) impl_MapOK.m4 rfl rfl (any_of HT_.out (by kernel_rfl)) (fun _ _ _ h => h) (Or.inl ⟨by rfl, ?_⟩) ?_ ?_; rotate_left; (focus intro w'; go_simp; with_reducible rfl); rotate_left; (focus simp only [pt, i64_w, i32_w]; rfl)
                        refine pure_ (i := 4) (N := some 16) (v := ?_) (a' := ?_) impl_MapOK.m5 rfl rfl (any_of HT_.out (by kernel_rfl)) (fun _ _ _ h => h) (Or.inl ⟨by rfl, ?_⟩) ?_ ?_; rotate_left; (focus intro w'; go_simp; with_reducible rfl); rotate_left; (focus simp only [pt, i64_w, i32_w]; rfl)
                        refine pure_ (i := 5) (N := some 17) (v := ?_) (a' := ?_) impl_MapOK.m6 rfl rfl (any_of HT_.out (by kernel_rfl)) (fun _ _ _ h => h) (Or.inl ⟨by rfl, ?_⟩) ?_ ?_; rotate_left; (focus intro w'; go_simp; with_reducible rfl); rotate_left; (focus simp only [pt, i64_w, i32_w]; rfl)
                        refine take_ (i := 6) (N := some 18) (v := ?_) (a' := ?_) impl_MapOK.m7 rfl rfl (take_ofW HT_.out HW_.out (by kernel_rfl)) (fun _ _ _ h => h) (Or.inl ⟨by rfl, ?_⟩) hHeld ?_ ?_; rotate_left; (focus rintro w' ⟨s0, s1, s2, s3⟩; go_simp; with_reducible rfl); rotate_left; (focus simp only [pt, i64_w, i32_w]; rfl)
                        refine one_ (i := 7) (N := some 19) impl_MapOK.m8 rfl rfl (one_of HT_.out (by kernel_rfl)) (by decide) (fun K hK => ?_)
                        refine goes_ Try.func86 (by kernel_rfl) rfl #[.int .i64 ((rd_T51 l0 x7_1).f1)] (by rfl) rfl rfl gA ?_
                        with_reducible refine (impl_isValue.calls ((rd_T51 l0 x7_1).f1) true _ A7.out).mono ?_
                        rintro e w' ⟨rfl, ⟨nd, rfl⟩⟩
                        refine ⟨_, rfl, ?_⟩
                        refine hK.out _ _ ⟨(blk_cell BK158.out 0).trans rfl, (blk_cell BK158.out 1).trans rfl, ((HB.out.cell (World.block_lt_of_cell? w _ hw161_0)).trans hw161_0), ((HB.out.cell (World.block_lt_of_cell? w _ hw161_1)).trans hw161_1)⟩ (fun hHeld => ?_)
                        clear hK K
                        refine norm_ (a' := ?_) ?_ ?_
                        rotate_left
                        · show Act.put _ (some 19) _ = _
                          simp only [Act.put, List.setIfInBounds_toArray, List.set_cons_zero, List.set_cons_succ, i64_w, i32_w]
                          rfl
                        refine pure_ (i := 8) (N := some 20) (v := ?_) (a' := ?_) impl_MapOK.m9 rfl rfl (any_of HT_.out (by kernel_rfl)) (fun _ _ _ h => h) (Or.inl ⟨by rfl, ?_⟩) ?_ ?_; rotate_left; (focus intro w'; go_simp; with_reducible rfl); rotate_left; (focus simp only [pt, i64_w, i32_w]; rfl)
                        refine pure_ (i := 9) (N := some 21) (v := ?_) (a' := ?_) impl_MapOK.m10 rfl rfl (any_of HT_.out (by kernel_rfl)) (fun _ _ _ h => h) (Or.inl ⟨by rfl, ?_⟩) ?_ ?_; rotate_left; (focus intro w'; go_simp; with_reducible rfl); rotate_left; (focus simp only [pt, i64_w, i32_w]; rfl)
                        refine pure_ (i := 10) (N := some 22) (v := ?_) (a' := ?_) impl_MapOK.m11 rfl rfl (any_of HT_.out (by kernel_rfl)) (fun _ _ _ h => h) (Or.inl ⟨by rfl, ?_⟩) ?_ ?_; rotate_left; (focus intro w'; go_simp; with_reducible rfl); rotate_left; (focus simp only [pt, i64_w, i32_w]; rfl)
                        refine pure_ (i := 11) (N := some 23) (v := ?_) (a' := ?_) impl_MapOK.m12 rfl rfl (any_of HT_.out (by kernel_rfl)) (fun _ _ _ h => h) (Or.inl ⟨by rfl, ?_⟩) ?_ ?_; rotate_left; (focus intro w'; go_simp; with_reducible rfl); rotate_left; (focus simp only [pt, i64_w, i32_w]; rfl)
                        refine pure_ (i := 12) (N := some 24) (v := ?_) (a' := ?_) impl_MapOK.m13 rfl rfl (any_of HT_.out (by kernel_rfl)) (fun _ _ _ h => h) (Or.inl ⟨by rfl, ?_⟩) ?_ ?_; rotate_left; (focus intro w'; go_simp; with_reducible rfl); rotate_left; (focus simp only [pt, i64_w, i32_w]; rfl)
                        refine pure_ (i := 13) (N := some 25) (v := ?_) (a' := ?_) impl_MapOK.m14 rfl rfl (any_of HT_.out (by kernel_rfl)) (fun _ _ _ h => h) (Or.inl ⟨by rfl, ?_⟩) ?_ ?_; rotate_left; (focus intro w'; go_simp; with_reducible rfl); rotate_left; (focus simp only [pt, i64_w, i32_w]; rfl)
                        refine pure_ (i := 14) (N := some 26) (v := ?_) (a' := ?_) impl_MapOK.m15 rfl rfl (any_of HT_.out (by kernel_rfl)) (fun _ _ _ h => h) (Or.inl ⟨by rfl, ?_⟩) ?_ ?_; rotate_left; (focus intro w'; go_simp; with_reducible rfl); rotate_left; (focus simp only [pt, i64_w, i32_w]; rfl)
                        refine pure_ (i := 15) (N := some 27) (v := ?_) (a' := ?_) impl_MapOK.m16 rfl rfl (any_of HT_.out (by kernel_rfl)) (fun _ _ _ h => h) (Or.inl ⟨by rfl, ?_⟩) ?_ ?_; rotate_left; (focus intro w'; go_simp; with_reducible rfl); rotate_left; (focus simp only [pt, i64_w, i32_w]; rfl)
                        refine pure_ (i := 16) (N := some 28) (v := ?_) (a' := ?_) impl_MapOK.m17 rfl rfl (any_of HT_.out (by kernel_rfl)) (fun _ _ _ h => h) (Or.inl ⟨by rfl, ?_⟩) ?_ ?_; rotate_left; (focus intro w'; go_simp; with_reducible rfl); rotate_left; (focus simp only [pt, i64_w, i32_w]; rfl)
                        refine pure_ (i := 17) (N := some 29) (v := ?_) (a' := ?_) impl_MapOK.m18 rfl rfl (any_of HT_.out (by kernel_rfl)) (fun _ _ _ h => h) (Or.inl ⟨by rfl, ?_⟩) ?_ ?_; rotate_left; (focus intro w'; go_simp; with_reducible rfl); rotate_left; (focus simp only [pt, i64_w, i32_w]; rfl)
                        refine pure_ (i := 18) (N := some 30) (v := ?_) (a' := ?_) impl_MapOK.m19 rfl rfl (any_of HT_.out (by kernel_rfl)) (fun _ _ _ h => h) (Or.inl ⟨by rfl, ?_⟩) ?_ ?_; rotate_left; (focus intro w'; go_simp; with_reducible rfl); rotate_left; (focus simp only [pt, i64_w, i32_w]; rfl)
                        refine pure_ (i := 20) (N := some 32) (v := ?_) (a' := ?_) impl_MapOK.m20 rfl rfl (any_of HT_.out (by kernel_rfl)) (fun _ _ _ h => h) (Or.inl ⟨by rfl, ?_⟩) ?_ ?_; rotate_left; (focus intro w'; go_simp; with_reducible rfl); rotate_left; (focus simp only [pt, i64_w, i32_w]; rfl)
                        refine take_ (i := 19) (N := some 31) (v := ?_) (a' := ?_) impl_MapOK.m21 rfl rfl (take_ofW HT_.out HW_.out (by kernel_rfl)) (fun _ _ _ h => h) (Or.inl ⟨by rfl, ?_⟩) hHeld ?_ ?_; rotate_left; (focus rintro w' ⟨s0, s1, s2, s3⟩; go_simp; with_reducible rfl); rotate_left; (focus simp only [pt, i64_w, i32_w]; rfl)
                        refine take_ (i := 21) (N := some 33) (v := ?_) (a' := ?_) impl_MapOK.m22 rfl rfl (take_ofW HT_.out HW_.out (by kernel_rfl)) (fun _ _ _ h => h) (Or.inl ⟨by rfl, ?_⟩) hHeld ?_ ?_; rotate_left; (focus rintro w' ⟨s0, s1, s2, s3⟩; go_simp; with_reducible rfl); rotate_left; (focus simp only [pt, i64_w, i32_w]; rfl)
                        refine pure_ (i := 22) (N := some 34) (v := ?_) (a' := ?_) impl_MapOK.m23 rfl rfl (any_of HT_.out (by kernel_rfl)) (fun _ _ _ h => h) (Or.inl ⟨by rfl, ?_⟩) ?_ ?_; rotate_left; (focus intro w'; go_simp; with_reducible rfl); rotate_left; (focus simp only [pt, i64_w, i32_w]; rfl)
                        refine pure_ (i := 23) (N := some 35) (v := ?_) (a' := ?_) impl_MapOK.m24 rfl rfl (any_of HT_.out (by kernel_rfl)) (fun _ _ _ h => h) (Or.inl ⟨by rfl, ?_⟩) ?_ ?_; rotate_left; (focus intro w'; go_simp; with_reducible rfl); rotate_left; (focus simp only [pt, i64_w, i32_w]; rfl)
                        refine pure_ (i := 24) (N := some 36) (v := ?_) (a' := ?_) impl_MapOK.m25 rfl rfl (any_of HT_.out (by kernel_rfl)) (fun _ _ _ h => h) (Or.inl ⟨by rfl, ?_⟩) ?_ ?_; rotate_left; (focus intro w'; go_simp; with_reducible rfl); rotate_left; (focus simp only [pt, i64_w, i32_w]; rfl)
                        refine done_ (done_of HT_.out (by kernel_rfl)) ?_
                        try go_wp2
                        go_ret
                        exact ⟨by first | rfl | (simp [errW_none, errW_some] <;> rfl) | (simp only [← hji10]; first | rfl | (simp [errW_none, errW_some] <;> rfl)) | (simp [*, errW_none, errW_some] <;> rfl), bW⟩
                    · rw [if_neg c12] at H
                      exact absurd H (by simp)
                  · rw [if_neg c11] at H
                    exact absurd H (by simp)
                · rw [if_neg c9] at H
                  have c9b0 : decide (0 < x7_1) = false := decide_eq_false c9
                  clear c9
                  have H' := Aside0.mk H
                  clear H
                  have p157 : 0 ≤ (x7_1 : Int) := odt
                  have q157 : x7_1 < (l0.length : Int) := odt
                  obtain ⟨ad157, e157, hx157_0, hx157_1⟩ := at_T51 HR0.out x7_1 p157 q157
                  cases e157
                  replace hx157_0 := (HB.out.cell (World.block_lt_of_cell? w _ hx157_0)).trans hx157_0
                  replace hx157_1 := (HB.out.cell (World.block_lt_of_cell? w _ hx157_1)).trans hx157_1
                  replace p157 := eq_true p157
                  replace q157 := eq_true q157
                  try go_wp2_with (first | ((with_reducible refine gate_dst (N := 4) rfl ?_); refine bE (N := 4) (cs := #[.string (⟨#[]⟩ : ByteArray), .int .i64 0]) (t := 51) ?_; intro gb158 hg w24 hbox hb; have n0_ := Aside0.mk (below_step (w := w) bW hb); have n1_ := Aside0.mk (hbox); have n2_ := Aside0.mk (gS (w := w) hg); have n3_ := n2_; clear HB; have HB := n0_; have BK158 := n1_; have GW158 := n2_; have GE158 := n3_; clear n0_ n1_ n2_ n3_; clear hb hbox hg; obtain ⟨hcz25_0, hcz25_1⟩ := cz2 BK158; obtain ⟨hfz25_0, hfz25_1⟩ := fz2 BK158))
                  have n0_ : Aside0 (((w24.setCell ⟨gb158, 0, none⟩ (.string ((rd_T51 l0 x7_1).f0))).setCell ⟨gb158, 1, none⟩ (.int .i64 ((rd_T51 l0 x7_1).f1))).heap[gb158]? = some (.cells #[.string ((rd_T51 l0 x7_1).f0), .int .i64 ((rd_T51 l0 x7_1).f1)] 51 (0, 0))) := ⟨by (with_reducible repeat (first | refine blk_drewN ?_ _ | refine blk_drew ?_ | refine blk_alloc ?_ _)); refine blk_put (cs := #[.string ((rd_T51 l0 x7_1).f0), .int .i64 0]) ?_ 1 _ rfl; (with_reducible repeat (first | refine blk_drewN ?_ _ | refine blk_drew ?_ | refine blk_alloc ?_ _)); refine blk_put (cs := #[.string (⟨#[]⟩ : ByteArray), .int .i64 0]) ?_ 0 _ rfl; (with_reducible repeat (first | refine blk_drewN ?_ _ | refine blk_drew ?_ | refine blk_alloc ?_ _)); exact BK158.out⟩
                  have n1_ : Aside0 (Below w.heap.size w ((w24.setCell ⟨gb158, 0, none⟩ (.string ((rd_T51 l0 x7_1).f0))).setCell ⟨gb158, 1, none⟩ (.int .i64 ((rd_T51 l0 x7_1).f1)))) := ⟨bW⟩
                  (try clear BK158)
                  (try clear HB)
                  generalize ((w24.setCell ⟨gb158, 0, none⟩ (.string ((rd_T51 l0 x7_1).f0))).setCell ⟨gb158, 1, none⟩ (.int .i64 ((rd_T51 l0 x7_1).f1))) = w26 at n0_ n1_ ⊢
                  have BK158 := n0_
                  have HB := n1_
                  clear n0_ n1_
                  have n0_ := Aside0.mk (blk_drew BK158.out)
                  have n1_ := Aside0.mk (below_drew1 HB.out)
                  clear BK158
                  clear HB
                  have BK158 := n0_
                  have HB := n1_
                  clear n0_ n1_
                  refine start_ (n := 25) (S := fun w' => w'.cell? ⟨gb158, 0, none⟩ = some (.string ((rd_T51 l0 x7_1).f0)) ∧ w'.cell? ⟨gb158, 1, none⟩ = some (.int .i64 ((rd_T51 l0 x7_1).f1))) (ds := []) impl_MapOK.m0 (by kernel_rfl) rfl rfl ⟨(blk_cell BK158.out 0).trans rfl, (blk_cell BK158.out 1).trans rfl⟩ (fun hHeld => ?_); refine with_tabW impl_MapOK.tab4 impl_MapOK.bits4 (fun HT_ HW_ => ?_)
                  generalize w26.drew = w27 at BK158 HB hHeld ⊢
                  refine pure_ (i := 0) (N := some 12) (v := ?_) (a' := ?_) impl_MapOK.m1 rfl rfl (any_of HT_.out (by kernel_rfl)) (fun _ _ _ h => h) (Or.inl ⟨by rfl, ?_⟩) ?_ ?_; rotate_left; (focus intro w'; go_simp; with_reducible rfl); rotate_left; (focus simp only [pt, i64_w, i32_w]; rfl)
                  refine take_ (i := 1) (N := some 13) (v := ?_) (a' := ?_) impl_MapOK.m2 rfl rfl (take_ofW HT_.out HW_.out (by kernel_rfl)) (fun _ _ _ h => h) (Or.inl ⟨by rfl, ?_⟩) hHeld ?_ ?_; rotate_left; (focus rintro w' ⟨s0, s1⟩; go_simp; with_reducible rfl); rotate_left; (focus simp only [pt, i64_w, i32_w]; rfl)
                  refine one_ (i := 2) (N := some 14) impl_MapOK.m3 rfl rfl (one_of HT_.out (by kernel_rfl)) (by decide) (fun K hK => ?_)
                  refine goes_ Try.func110 (by kernel_rfl) rfl #[.string ((rd_T51 l0 x7_1).f0)] (by rfl) rfl rfl gA ?_
                  with_reducible refine (impl_NameOK.calls ((rd_T51 l0 x7_1).f0) true _ A5.out).mono ?_
                  rintro e w28 ⟨rfl, hb⟩
                  refine ⟨_, rfl, ?_⟩
                  have n0_ := Aside0.mk (kb BK158 hb)
                  have n1_ := Aside0.mk (below_step (w := w) bW hb)
                  clear BK158
                  clear HB
                  have BK158 := n0_
                  have HB := n1_
                  clear n0_ n1_
                  (try clear hb)
                  (try clear hb2)
                  (try clear hk)
                  (try clear hi)
                  refine hK.out _ _ ⟨(blk_cell BK158.out 0).trans rfl, (blk_cell BK158.out 1).trans rfl⟩ (fun hHeld => ?_)
                  clear hK K
                  refine norm_ (a' := ?_) ?_ ?_
                  rotate_left
                  · show Act.put _ (some 14) _ = _
                    simp only [Act.put, List.setIfInBounds_toArray, List.set_cons_zero, List.set_cons_succ, i64_w, i32_w]
                    rfl
                  refine pure_ (i := 3) (N := some 15) (v := ?_) (a' := ?_) impl_MapOK.m4 rfl rfl (any_of HT_.out (by kernel_rfl)) (fun _ _ _ h => h) (Or.inl ⟨by rfl, ?_⟩) ?_ ?_; rotate_left; (focus intro w'; go_simp; with_reducible rfl); rotate_left; (focus simp only [pt, i64_w, i32_w]; rfl)
                  refine pure_ (i := 4) (N := some 16) (v := ?_) (a' := ?_) impl_MapOK.m5 rfl rfl (any_of HT_.out (by kernel_rfl)) (fun _ _ _ h => h) (Or.inl ⟨by rfl, ?_⟩) ?_ ?_; rotate_left; (focus intro w'; go_simp; with_reducible rfl); rotate_left; (focus simp only [pt, i64_w, i32_w]; rfl)
                  refine pure_ (i := 5) (N := some 17) (v := ?_) (a' := ?_) impl_MapOK.m6 rfl rfl (any_of HT_.out (by kernel_rfl)) (fun _ _ _ h => h) (Or.inl ⟨by rfl, ?_⟩) ?_ ?_; rotate_left; (focus intro w'; go_simp; with_reducible rfl); rotate_left; (focus simp only [pt, i64_w, i32_w]; rfl)
                  refine take_ (i := 6) (N := some 18) (v := ?_) (a' := ?_) impl_MapOK.m7 rfl rfl (take_ofW HT_.out HW_.out (by kernel_rfl)) (fun _ _ _ h => h) (Or.inl ⟨by rfl, ?_⟩) hHeld ?_ ?_; rotate_left; (focus rintro w' ⟨s0, s1⟩; go_simp; with_reducible rfl); rotate_left; (focus simp only [pt, i64_w, i32_w]; rfl)
                  refine one_ (i := 7) (N := some 19) impl_MapOK.m8 rfl rfl (one_of HT_.out (by kernel_rfl)) (by decide) (fun K hK => ?_)
                  refine goes_ Try.func86 (by kernel_rfl) rfl #[.int .i64 ((rd_T51 l0 x7_1).f1)] (by rfl) rfl rfl gA ?_
                  with_reducible refine (impl_isValue.calls ((rd_T51 l0 x7_1).f1) true _ A7.out).mono ?_
                  rintro e w' ⟨rfl, ⟨nd, rfl⟩⟩
                  refine ⟨_, rfl, ?_⟩
                  refine hK.out _ _ ⟨(blk_cell BK158.out 0).trans rfl, (blk_cell BK158.out 1).trans rfl⟩ (fun hHeld => ?_)
                  clear hK K
                  refine norm_ (a' := ?_) ?_ ?_
                  rotate_left
                  · show Act.put _ (some 19) _ = _
                    simp only [Act.put, List.setIfInBounds_toArray, List.set_cons_zero, List.set_cons_succ, i64_w, i32_w]
                    rfl
                  refine pure_ (i := 8) (N := some 20) (v := ?_) (a' := ?_) impl_MapOK.m9 rfl rfl (any_of HT_.out (by kernel_rfl)) (fun _ _ _ h => h) (Or.inl ⟨by rfl, ?_⟩) ?_ ?_; rotate_left; (focus intro w'; go_simp; with_reducible rfl); rotate_left; (focus simp only [pt, i64_w, i32_w]; rfl)
                  refine pure_ (i := 9) (N := some 21) (v := ?_) (a' := ?_) impl_MapOK.m10 rfl rfl (any_of HT_.out (by kernel_rfl)) (fun _ _ _ h => h) (Or.inl ⟨by rfl, ?_⟩) ?_ ?_; rotate_left; (focus intro w'; go_simp; with_reducible rfl); rotate_left; (focus simp only [pt, i64_w, i32_w]; rfl)
                  refine pure_ (i := 10) (N := some 22) (v := ?_) (a' := ?_) impl_MapOK.m11 rfl rfl (any_of HT_.out (by kernel_rfl)) (fun _ _ _ h => h) (Or.inl ⟨by rfl, ?_⟩) ?_ ?_; rotate_left; (focus intro w'; go_simp; with_reducible rfl); rotate_left; (focus simp only [pt, i64_w, i32_w]; rfl)
                  refine pure_ (i := 11) (N := some 23) (v := ?_) (a' := ?_) impl_MapOK.m12 rfl rfl (any_of HT_.out (by kernel_rfl)) (fun _ _ _ h => h) (Or.inl ⟨by rfl, ?_⟩) ?_ ?_; rotate_left; (focus intro w'; go_simp; with_reducible rfl); rotate_left; (focus simp only [pt, i64_w, i32_w]; rfl)
                  refine pure_ (i := 12) (N := some 24) (v := ?_) (a' := ?_) impl_MapOK.m13 rfl rfl (any_of HT_.out (by kernel_rfl)) (fun _ _ _ h => h) (Or.inl ⟨by rfl, ?_⟩) ?_ ?_; rotate_left; (focus intro w'; go_simp; with_reducible rfl); rotate_left; (focus simp only [pt, i64_w, i32_w]; rfl)
                  refine pure_ (i := 13) (N := some 25) (v := ?_) (a' := ?_) impl_MapOK.m14 rfl rfl (any_of HT_.out (by kernel_rfl)) (fun _ _ _ h => h) (Or.inl ⟨by rfl, ?_⟩) ?_ ?_; rotate_left; (focus intro w'; go_simp; with_reducible rfl); rotate_left; (focus simp only [pt, i64_w, i32_w]; rfl)
                  refine pure_ (i := 14) (N := some 26) (v := undef) (a' := ?_) impl_MapOK.m15 rfl rfl (any_of HT_.out (by kernel_rfl)) (fun _ _ _ h => h) (Or.inr ⟨by rfl, rfl⟩) ?_ ?_; rotate_left; (focus simp only [pt, i64_w, i32_w]; rfl)
                  refine pure_ (i := 15) (N := some 27) (v := undef) (a' := ?_) impl_MapOK.m16 rfl rfl (any_of HT_.out (by kernel_rfl)) (fun _ _ _ h => h) (Or.inr ⟨by rfl, rfl⟩) ?_ ?_; rotate_left; (focus simp only [pt, i64_w, i32_w]; rfl)
                  refine pure_ (i := 16) (N := some 28) (v := undef) (a' := ?_) impl_MapOK.m17 rfl rfl (any_of HT_.out (by kernel_rfl)) (fun _ _ _ h => h) (Or.inr ⟨by rfl, rfl⟩) ?_ ?_; rotate_left; (focus simp only [pt, i64_w, i32_w]; rfl)
                  refine pure_ (i := 17) (N := some 29) (v := undef) (a' := ?_) impl_MapOK.m18 rfl rfl (any_of HT_.out (by kernel_rfl)) (fun _ _ _ h => h) (Or.inr ⟨by rfl, rfl⟩) ?_ ?_; rotate_left; (focus simp only [pt, i64_w, i32_w]; rfl)
                  refine pure_ (i := 18) (N := some 30) (v := undef) (a' := ?_) impl_MapOK.m19 rfl rfl (any_of HT_.out (by kernel_rfl)) (fun _ _ _ h => h) (Or.inr ⟨by rfl, rfl⟩) ?_ ?_; rotate_left; (focus simp only [pt, i64_w, i32_w]; rfl)
                  refine pure_ (i := 19) (N := some 31) (v := undef) (a' := ?_) impl_MapOK.m26 rfl rfl (any_of HT_.out (by kernel_rfl)) (fun _ _ _ h => h) (Or.inr ⟨by rfl, rfl⟩) ?_ ?_; rotate_left; (focus simp only [pt, i64_w, i32_w]; rfl)
                  refine pure_ (i := 20) (N := some 32) (v := undef) (a' := ?_) impl_MapOK.m21 rfl rfl (any_of HT_.out (by kernel_rfl)) (fun _ _ _ h => h) (Or.inr ⟨by rfl, rfl⟩) ?_ ?_; rotate_left; (focus simp only [pt, i64_w, i32_w]; rfl)
                  refine pure_ (i := 21) (N := some 33) (v := undef) (a' := ?_) impl_MapOK.m22 rfl rfl (any_of HT_.out (by kernel_rfl)) (fun _ _ _ h => h) (Or.inr ⟨by rfl, rfl⟩) ?_ ?_; rotate_left; (focus simp only [pt, i64_w, i32_w]; rfl)
                  refine pure_ (i := 22) (N := some 34) (v := undef) (a' := ?_) impl_MapOK.m23 rfl rfl (any_of HT_.out (by kernel_rfl)) (fun _ _ _ h => h) (Or.inr ⟨by rfl, rfl⟩) ?_ ?_; rotate_left; (focus simp only [pt, i64_w, i32_w]; rfl)
                  refine pure_ (i := 23) (N := some 35) (v := ?_) (a' := ?_) impl_MapOK.m24 rfl rfl (any_of HT_.out (by kernel_rfl)) (fun _ _ _ h => h) (Or.inl ⟨by rfl, ?_⟩) ?_ ?_; rotate_left; (focus intro w'; go_simp; with_reducible rfl); rotate_left; (focus simp only [pt, i64_w, i32_w]; rfl)
                  refine pure_ (i := 24) (N := some 36) (v := ?_) (a' := ?_) impl_MapOK.m25 rfl rfl (any_of HT_.out (by kernel_rfl)) (fun _ _ _ h => h) (Or.inl ⟨by rfl, ?_⟩) ?_ ?_; rotate_left; (focus intro w'; go_simp; with_reducible rfl); rotate_left; (focus simp only [pt, i64_w, i32_w]; rfl)
                  refine done_ (done_of HT_.out (by kernel_rfl)) ?_
                  try go_wp2
                  go_roundg k1
                  case measure => have := HK1.out; omega
                  case rel => exact ⟨(wrap64 (x7_1 + 1)), vE, H', ⟨by have := HK1.out; omega⟩, ⟨bW⟩⟩
              · replace c8 := Bool.eq_false_iff.mpr c8
                subst c8
                have H1 : (some false) = some r := by rw [if_neg (show ¬ (false = true) by decide)] at H; exact H
                clear H
                have H := H1
                clear H1
                obtain rfl := Option.some.inj H
                have p157 : 0 ≤ (x7_1 : Int) := odt
                have q157 : x7_1 < (l0.length : Int) := odt
                obtain ⟨ad157, e157, hx157_0, hx157_1⟩ := at_T51 HR0.out x7_1 p157 q157
                cases e157
                replace hx157_0 := (HB.out.cell (World.block_lt_of_cell? w _ hx157_0)).trans hx157_0
                replace hx157_1 := (HB.out.cell (World.block_lt_of_cell? w _ hx157_1)).trans hx157_1
                replace p157 := eq_true p157
                replace q157 := eq_true q157
                try go_wp2_with (first | ((with_reducible refine gate_dst (N := 4) rfl ?_); refine bE (N := 4) (cs := #[.string (⟨#[]⟩ : ByteArray), .int .i64 0]) (t := 51) ?_; intro gb158 hg w29 hbox hb; have n0_ := Aside0.mk (below_step (w := w) bW hb); have n1_ := Aside0.mk (hbox); have n2_ := Aside0.mk (gS (w := w) hg); have n3_ := n2_; clear HB; have HB := n0_; have BK158 := n1_; have GW158 := n2_; have GE158 := n3_; clear n0_ n1_ n2_ n3_; clear hb hbox hg; obtain ⟨hcz30_0, hcz30_1⟩ := cz2 BK158; obtain ⟨hfz30_0, hfz30_1⟩ := fz2 BK158))
                have n0_ : Aside0 (((w29.setCell ⟨gb158, 0, none⟩ (.string ((rd_T51 l0 x7_1).f0))).setCell ⟨gb158, 1, none⟩ (.int .i64 ((rd_T51 l0 x7_1).f1))).heap[gb158]? = some (.cells #[.string ((rd_T51 l0 x7_1).f0), .int .i64 ((rd_T51 l0 x7_1).f1)] 51 (0, 0))) := ⟨by (with_reducible repeat (first | refine blk_drewN ?_ _ | refine blk_drew ?_ | refine blk_alloc ?_ _)); refine blk_put (cs := #[.string ((rd_T51 l0 x7_1).f0), .int .i64 0]) ?_ 1 _ rfl; (with_reducible repeat (first | refine blk_drewN ?_ _ | refine blk_drew ?_ | refine blk_alloc ?_ _)); refine blk_put (cs := #[.string (⟨#[]⟩ : ByteArray), .int .i64 0]) ?_ 0 _ rfl; (with_reducible repeat (first | refine blk_drewN ?_ _ | refine blk_drew ?_ | refine blk_alloc ?_ _)); exact BK158.out⟩
                have n1_ : Aside0 (Below w.heap.size w ((w29.setCell ⟨gb158, 0, none⟩ (.string ((rd_T51 l0 x7_1).f0))).setCell ⟨gb158, 1, none⟩ (.int .i64 ((rd_T51 l0 x7_1).f1)))) := ⟨bW⟩
                (try clear BK158)
                (try clear HB)
                generalize ((w29.setCell ⟨gb158, 0, none⟩ (.string ((rd_T51 l0 x7_1).f0))).setCell ⟨gb158, 1, none⟩ (.int .i64 ((rd_T51 l0 x7_1).f1))) = w31 at n0_ n1_ ⊢
                have BK158 := n0_
                have HB := n1_
                clear n0_ n1_
                have n0_ := Aside0.mk (blk_drew BK158.out)
                have n1_ := Aside0.mk (below_drew1 HB.out)
                clear BK158
                clear HB
                have BK158 := n0_
                have HB := n1_
                clear n0_ n1_
                refine start_ (n := 25) (S := fun w' => w'.cell? ⟨gb158, 0, none⟩ = some (.string ((rd_T51 l0 x7_1).f0)) ∧ w'.cell? ⟨gb158, 1, none⟩ = some (.int .i64 ((rd_T51 l0 x7_1).f1))) (ds := []) impl_MapOK.m0 (by kernel_rfl) rfl rfl ⟨(blk_cell BK158.out 0).trans rfl, (blk_cell BK158.out 1).trans rfl⟩ (fun hHeld => ?_); refine with_tabW impl_MapOK.tab4 impl_MapOK.bits4 (fun HT_ HW_ => ?_)
                generalize w31.drew = w32 at BK158 HB hHeld ⊢
                refine pure_ (i := 0) (N := some 12) (v := ?_) (a' := ?_) impl_MapOK.m1 rfl rfl (any_of HT_.out (by kernel_rfl)) (fun _ _ _ h => h) (Or.inl ⟨by rfl, ?_⟩) ?_ ?_; rotate_left; (focus intro w'; go_simp; with_reducible rfl); rotate_left; (focus simp only [pt, i64_w, i32_w]; rfl)
                refine take_ (i := 1) (N := some 13) (v := ?_) (a' := ?_) impl_MapOK.m2 rfl rfl (take_ofW HT_.out HW_.out (by kernel_rfl)) (fun _ _ _ h => h) (Or.inl ⟨by rfl, ?_⟩) hHeld ?_ ?_; rotate_left; (focus rintro w' ⟨s0, s1⟩; go_simp; with_reducible rfl); rotate_left; (focus simp only [pt, i64_w, i32_w]; rfl)
                refine one_ (i := 2) (N := some 14) impl_MapOK.m3 rfl rfl (one_of HT_.out (by kernel_rfl)) (by decide) (fun K hK => ?_)
                refine goes_ Try.func110 (by kernel_rfl) rfl #[.string ((rd_T51 l0 x7_1).f0)] (by rfl) rfl rfl gA ?_
                with_reducible refine (impl_NameOK.calls ((rd_T51 l0 x7_1).f0) true _ A5.out).mono ?_
                rintro e w33 ⟨rfl, hb⟩
                refine ⟨_, rfl, ?_⟩
                have n0_ := Aside0.mk (kb BK158 hb)
                have n1_ := Aside0.mk (below_step (w := w) bW hb)
                clear BK158
                clear HB
                have BK158 := n0_
                have HB := n1_
                clear n0_ n1_
                (try clear hb)
                (try clear hb2)
                (try clear hk)
                (try clear hi)
                refine hK.out _ _ ⟨(blk_cell BK158.out 0).trans rfl, (blk_cell BK158.out 1).trans rfl⟩ (fun hHeld => ?_)
                clear hK K
                refine norm_ (a' := ?_) ?_ ?_
                rotate_left
                · show Act.put _ (some 14) _ = _
                  simp only [Act.put, List.setIfInBounds_toArray, List.set_cons_zero, List.set_cons_succ, i64_w, i32_w]
                  rfl
                refine pure_ (i := 3) (N := some 15) (v := ?_) (a' := ?_) impl_MapOK.m4 rfl rfl (any_of HT_.out (by kernel_rfl)) (fun _ _ _ h => h) (Or.inl ⟨by rfl, ?_⟩) ?_ ?_; rotate_left; (focus intro w'; go_simp; with_reducible rfl); rotate_left; (focus simp only [pt, i64_w, i32_w]; rfl)
                refine pure_ (i := 4) (N := some 16) (v := ?_) (a' := ?_) impl_MapOK.m5 rfl rfl (any_of HT_.out (by kernel_rfl)) (fun _ _ _ h => h) (Or.inl ⟨by rfl, ?_⟩) ?_ ?_; rotate_left; (focus intro w'; go_simp; with_reducible rfl); rotate_left; (focus simp only [pt, i64_w, i32_w]; rfl)
                refine pure_ (i := 5) (N := some 17) (v := ?_) (a' := ?_) impl_MapOK.m6 rfl rfl (any_of HT_.out (by kernel_rfl)) (fun _ _ _ h => h) (Or.inl ⟨by rfl, ?_⟩) ?_ ?_; rotate_left; (focus intro w'; go_simp; with_reducible rfl); rotate_left; (focus simp only [pt, i64_w, i32_w]; rfl)
                refine take_ (i := 6) (N := some 18) (v := ?_) (a' := ?_) impl_MapOK.m7 rfl rfl (take_ofW HT_.out HW_.out (by kernel_rfl)) (fun _ _ _ h => h) (Or.inl ⟨by rfl, ?_⟩) hHeld ?_ ?_; rotate_left; (focus rintro w' ⟨s0, s1⟩; go_simp; with_reducible rfl); rotate_left; (focus simp only [pt, i64_w, i32_w]; rfl)
                refine one_ (i := 7) (N := some 19) impl_MapOK.m8 rfl rfl (one_of HT_.out (by kernel_rfl)) (by decide) (fun K hK => ?_)
                refine goes_ Try.func86 (by kernel_rfl) rfl #[.int .i64 ((rd_T51 l0 x7_1).f1)] (by rfl) rfl rfl gA ?_
                with_reducible refine (impl_isValue.calls ((rd_T51 l0 x7_1).f1) false _ A7.out).mono ?_
                rintro e w' ⟨rfl, ⟨nd, rfl⟩⟩
                refine ⟨_, rfl, ?_⟩
                refine hK.out _ _ ⟨(blk_cell BK158.out 0).trans rfl, (blk_cell BK158.out 1).trans rfl⟩ (fun hHeld => ?_)
                clear hK K
                refine norm_ (a' := ?_) ?_ ?_
                rotate_left
                · show Act.put _ (some 19) _ = _
                  simp only [Act.put, List.setIfInBounds_toArray, List.set_cons_zero, List.set_cons_succ, i64_w, i32_w]
                  rfl
                refine pure_ (i := 8) (N := some 20) (v := ?_) (a' := ?_) impl_MapOK.m9 rfl rfl (any_of HT_.out (by kernel_rfl)) (fun _ _ _ h => h) (Or.inl ⟨by rfl, ?_⟩) ?_ ?_; rotate_left; (focus intro w'; go_simp; with_reducible rfl); rotate_left; (focus simp only [pt, i64_w, i32_w]; rfl)
                refine pure_ (i := 9) (N := some 21) (v := ?_) (a' := ?_) impl_MapOK.m10 rfl rfl (any_of HT_.out (by kernel_rfl)) (fun _ _ _ h => h) (Or.inl ⟨by rfl, ?_⟩) ?_ ?_; rotate_left; (focus intro w'; go_simp; with_reducible rfl); rotate_left; (focus simp only [pt, i64_w, i32_w]; rfl)
                refine pure_ (i := 10) (N := some 22) (v := ?_) (a' := ?_) impl_MapOK.m11 rfl rfl (any_of HT_.out (by kernel_rfl)) (fun _ _ _ h => h) (Or.inl ⟨by rfl, ?_⟩) ?_ ?_; rotate_left; (focus intro w'; go_simp; with_reducible rfl); rotate_left; (focus simp only [pt, i64_w, i32_w]; rfl)
                refine pure_ (i := 11) (N := some 23) (v := undef) (a' := ?_) impl_MapOK.m12 rfl rfl (any_of HT_.out (by kernel_rfl)) (fun _ _ _ h => h) (Or.inr ⟨by rfl, rfl⟩) ?_ ?_; rotate_left; (focus simp only [pt, i64_w, i32_w]; rfl)
                refine pure_ (i := 12) (N := some 24) (v := undef) (a' := ?_) impl_MapOK.m13 rfl rfl (any_of HT_.out (by kernel_rfl)) (fun _ _ _ h => h) (Or.inr ⟨by rfl, rfl⟩) ?_ ?_; rotate_left; (focus simp only [pt, i64_w, i32_w]; rfl)
                refine pure_ (i := 13) (N := some 25) (v := undef) (a' := ?_) impl_MapOK.m14 rfl rfl (any_of HT_.out (by kernel_rfl)) (fun _ _ _ h => h) (Or.inr ⟨by rfl, rfl⟩) ?_ ?_; rotate_left; (focus simp only [pt, i64_w, i32_w]; rfl)
                refine pure_ (i := 14) (N := some 26) (v := undef) (a' := ?_) impl_MapOK.m15 rfl rfl (any_of HT_.out (by kernel_rfl)) (fun _ _ _ h => h) (Or.inr ⟨by rfl, rfl⟩) ?_ ?_; rotate_left; (focus simp only [pt, i64_w, i32_w]; rfl)
                refine pure_ (i := 15) (N := some 27) (v := undef) (a' := ?_) impl_MapOK.m16 rfl rfl (any_of HT_.out (by kernel_rfl)) (fun _ _ _ h => h) (Or.inr ⟨by rfl, rfl⟩) ?_ ?_; rotate_left; (focus simp only [pt, i64_w, i32_w]; rfl)
                refine pure_ (i := 16) (N := some 28) (v := undef) (a' := ?_) impl_MapOK.m17 rfl rfl (any_of HT_.out (by kernel_rfl)) (fun _ _ _ h => h) (Or.inr ⟨by rfl, rfl⟩) ?_ ?_; rotate_left; (focus simp only [pt, i64_w, i32_w]; rfl)
                refine pure_ (i := 17) (N := some 29) (v := undef) (a' := ?_) impl_MapOK.m18 rfl rfl (any_of HT_.out (by kernel_rfl)) (fun _ _ _ h => h) (Or.inr ⟨by rfl, rfl⟩) ?_ ?_; rotate_left; (focus simp only [pt, i64_w, i32_w]; rfl)
                refine pure_ (i := 18) (N := some 30) (v := undef) (a' := ?_) impl_MapOK.m19 rfl rfl (any_of HT_.out (by kernel_rfl)) (fun _ _ _ h => h) (Or.inr ⟨by rfl, rfl⟩) ?_ ?_; rotate_left; (focus simp only [pt, i64_w, i32_w]; rfl)
                refine pure_ (i := 19) (N := some 31) (v := undef) (a' := ?_) impl_MapOK.m26 rfl rfl (any_of HT_.out (by kernel_rfl)) (fun _ _ _ h => h) (Or.inr ⟨by rfl, rfl⟩) ?_ ?_; rotate_left; (focus simp only [pt, i64_w, i32_w]; rfl)
                refine pure_ (i := 20) (N := some 32) (v := undef) (a' := ?_) impl_MapOK.m21 rfl rfl (any_of HT_.out (by kernel_rfl)) (fun _ _ _ h => h) (Or.inr ⟨by rfl, rfl⟩) ?_ ?_; rotate_left; (focus simp only [pt, i64_w, i32_w]; rfl)
                refine pure_ (i := 21) (N := some 33) (v := undef) (a' := ?_) impl_MapOK.m22 rfl rfl (any_of HT_.out (by kernel_rfl)) (fun _ _ _ h => h) (Or.inr ⟨by rfl, rfl⟩) ?_ ?_; rotate_left; (focus simp only [pt, i64_w, i32_w]; rfl)
                refine pure_ (i := 22) (N := some 34) (v := undef) (a' := ?_) impl_MapOK.m23 rfl rfl (any_of HT_.out (by kernel_rfl)) (fun _ _ _ h => h) (Or.inr ⟨by rfl, rfl⟩) ?_ ?_; rotate_left; (focus simp only [pt, i64_w, i32_w]; rfl)
                refine pure_ (i := 23) (N := some 35) (v := undef) (a' := ?_) impl_MapOK.m24 rfl rfl (any_of HT_.out (by kernel_rfl)) (fun _ _ _ h => h) (Or.inr ⟨by rfl, rfl⟩) ?_ ?_; rotate_left; (focus simp only [pt, i64_w, i32_w]; rfl)
                refine pure_ (i := 24) (N := some 36) (v := ?_) (a' := ?_) impl_MapOK.m25 rfl rfl (any_of HT_.out (by kernel_rfl)) (fun _ _ _ h => h) (Or.inl ⟨by rfl, ?_⟩) ?_ ?_; rotate_left; (focus intro w'; go_simp; with_reducible rfl); rotate_left; (focus simp only [pt, i64_w, i32_w]; rfl)
                refine done_ (done_of HT_.out (by kernel_rfl)) ?_
                try go_wp2
                go_ret
                exact ⟨rE, bW⟩
            · replace c6 := Bool.eq_false_iff.mpr c6
              subst c6
              have H1 : (some false) = some r := by rw [if_neg (show ¬ (false = true) by decide)] at H; exact H
              clear H
              have H := H1
              clear H1
              obtain rfl := Option.some.inj H
              have p157 : 0 ≤ (x7_1 : Int) := odt
              have q157 : x7_1 < (l0.length : Int) := odt
              obtain ⟨ad157, e157, hx157_0, hx157_1⟩ := at_T51 HR0.out x7_1 p157 q157
              cases e157
              replace hx157_0 := (HB.out.cell (World.block_lt_of_cell? w _ hx157_0)).trans hx157_0
              replace hx157_1 := (HB.out.cell (World.block_lt_of_cell? w _ hx157_1)).trans hx157_1
              replace p157 := eq_true p157
              replace q157 := eq_true q157
              try go_wp2_with (first | ((with_reducible refine gate_dst (N := 4) rfl ?_); refine bE (N := 4) (cs := #[.string (⟨#[]⟩ : ByteArray), .int .i64 0]) (t := 51) ?_; intro gb158 hg w34 hbox hb; have n0_ := Aside0.mk (below_step (w := w) bW hb); have n1_ := Aside0.mk (hbox); have n2_ := Aside0.mk (gS (w := w) hg); have n3_ := n2_; clear HB; have HB := n0_; have BK158 := n1_; have GW158 := n2_; have GE158 := n3_; clear n0_ n1_ n2_ n3_; clear hb hbox hg; obtain ⟨hcz35_0, hcz35_1⟩ := cz2 BK158; obtain ⟨hfz35_0, hfz35_1⟩ := fz2 BK158))
              have n0_ : Aside0 (((w34.setCell ⟨gb158, 0, none⟩ (.string ((rd_T51 l0 x7_1).f0))).setCell ⟨gb158, 1, none⟩ (.int .i64 ((rd_T51 l0 x7_1).f1))).heap[gb158]? = some (.cells #[.string ((rd_T51 l0 x7_1).f0), .int .i64 ((rd_T51 l0 x7_1).f1)] 51 (0, 0))) := ⟨by (with_reducible repeat (first | refine blk_drewN ?_ _ | refine blk_drew ?_ | refine blk_alloc ?_ _)); refine blk_put (cs := #[.string ((rd_T51 l0 x7_1).f0), .int .i64 0]) ?_ 1 _ rfl; (with_reducible repeat (first | refine blk_drewN ?_ _ | refine blk_drew ?_ | refine blk_alloc ?_ _)); refine blk_put (cs := #[.string (⟨#[]⟩ : ByteArray), .int .i64 0]) ?_ 0 _ rfl; (with_reducible repeat (first | refine blk_drewN ?_ _ | refine blk_drew ?_ | refine blk_alloc ?_ _)); exact BK158.out⟩
              have n1_ : Aside0 (Below w.heap.size w ((w34.setCell ⟨gb158, 0, none⟩ (.string ((rd_T51 l0 x7_1).f0))).setCell ⟨gb158, 1, none⟩ (.int .i64 ((rd_T51 l0 x7_1).f1)))) := ⟨bW⟩
              (try clear BK158)
              (try clear HB)
              generalize ((w34.setCell ⟨gb158, 0, none⟩ (.string ((rd_T51 l0 x7_1).f0))).setCell ⟨gb158, 1, none⟩ (.int .i64 ((rd_T51 l0 x7_1).f1))) = w36 at n0_ n1_ ⊢
              have BK158 := n0_
              have HB := n1_
              clear n0_ n1_
              have n0_ := Aside0.mk (blk_drew BK158.out)
              have n1_ := Aside0.mk (below_drew1 HB.out)
              clear BK158
              clear HB
              have BK158 := n0_
              have HB := n1_
              clear n0_ n1_
              refine start_ (n := 25) (S := fun w' => w'.cell? ⟨gb158, 0, none⟩ = some (.string ((rd_T51 l0 x7_1).f0)) ∧ w'.cell? ⟨gb158, 1, none⟩ = some (.int .i64 ((rd_T51 l0 x7_1).f1))) (ds := []) impl_MapOK.m0 (by kernel_rfl) rfl rfl ⟨(blk_cell BK158.out 0).trans rfl, (blk_cell BK158.out 1).trans rfl⟩ (fun hHeld => ?_); refine with_tabW impl_MapOK.tab4 impl_MapOK.bits4 (fun HT_ HW_ => ?_)
              generalize w36.drew = w37 at BK158 HB hHeld ⊢
              refine pure_ (i := 0) (N := some 12) (v := ?_) (a' := ?_) impl_MapOK.m1 rfl rfl (any_of HT_.out (by kernel_rfl)) (fun _ _ _ h => h) (Or.inl ⟨by rfl, ?_⟩) ?_ ?_; rotate_left; (focus intro w'; go_simp; with_reducible rfl); rotate_left; (focus simp only [pt, i64_w, i32_w]; rfl)
              refine take_ (i := 1) (N := some 13) (v := ?_) (a' := ?_) impl_MapOK.m2 rfl rfl (take_ofW HT_.out HW_.out (by kernel_rfl)) (fun _ _ _ h => h) (Or.inl ⟨by rfl, ?_⟩) hHeld ?_ ?_; rotate_left; (focus rintro w' ⟨s0, s1⟩; go_simp; with_reducible rfl); rotate_left; (focus simp only [pt, i64_w, i32_w]; rfl)
              refine one_ (i := 2) (N := some 14) impl_MapOK.m3 rfl rfl (one_of HT_.out (by kernel_rfl)) (by decide) (fun K hK => ?_)
              refine goes_ Try.func110 (by kernel_rfl) rfl #[.string ((rd_T51 l0 x7_1).f0)] (by rfl) rfl rfl gA ?_
              with_reducible refine (impl_NameOK.calls ((rd_T51 l0 x7_1).f0) false _ A5.out).mono ?_
              rintro e w38 ⟨rfl, hb⟩
              refine ⟨_, rfl, ?_⟩
              have n0_ := Aside0.mk (kb BK158 hb)
              have n1_ := Aside0.mk (below_step (w := w) bW hb)
              clear BK158
              clear HB
              have BK158 := n0_
              have HB := n1_
              clear n0_ n1_
              (try clear hb)
              (try clear hb2)
              (try clear hk)
              (try clear hi)
              refine hK.out _ _ ⟨(blk_cell BK158.out 0).trans rfl, (blk_cell BK158.out 1).trans rfl⟩ (fun hHeld => ?_)
              clear hK K
              refine norm_ (a' := ?_) ?_ ?_
              rotate_left
              · show Act.put _ (some 14) _ = _
                simp only [Act.put, List.setIfInBounds_toArray, List.set_cons_zero, List.set_cons_succ, i64_w, i32_w]
                rfl
              refine pure_ (i := 3) (N := some 15) (v := ?_) (a' := ?_) impl_MapOK.m4 rfl rfl (any_of HT_.out (by kernel_rfl)) (fun _ _ _ h => h) (Or.inl ⟨by rfl, ?_⟩) ?_ ?_; rotate_left; (focus intro w'; go_simp; with_reducible rfl); rotate_left; (focus simp only [pt, i64_w, i32_w]; rfl)
              refine pure_ (i := 4) (N := some 16) (v := ?_) (a' := ?_) impl_MapOK.m5 rfl rfl (any_of HT_.out (by kernel_rfl)) (fun _ _ _ h => h) (Or.inl ⟨by rfl, ?_⟩) ?_ ?_; rotate_left; (focus intro w'; go_simp; with_reducible rfl); rotate_left; (focus simp only [pt, i64_w, i32_w]; rfl)
              refine pure_ (i := 5) (N := some 17) (v := undef) (a' := ?_) impl_MapOK.m6 rfl rfl (any_of HT_.out (by kernel_rfl)) (fun _ _ _ h => h) (Or.inr ⟨by rfl, rfl⟩) ?_ ?_; rotate_left; (focus simp only [pt, i64_w, i32_w]; rfl)
              refine pure_ (i := 6) (N := some 18) (v := undef) (a' := ?_) impl_MapOK.m7 rfl rfl (any_of HT_.out (by kernel_rfl)) (fun _ _ _ h => h) (Or.inr ⟨by rfl, rfl⟩) ?_ ?_; rotate_left; (focus simp only [pt, i64_w, i32_w]; rfl)
              refine pure_ (i := 7) (N := some 19) (v := undef) (a' := ?_) impl_MapOK.m8 rfl rfl (any_of HT_.out (by kernel_rfl)) (fun _ _ _ h => h) (Or.inr ⟨by rfl, rfl⟩) ?_ ?_; rotate_left; (focus simp only [pt, i64_w, i32_w]; rfl)
              refine pure_ (i := 8) (N := some 20) (v := undef) (a' := ?_) impl_MapOK.m9 rfl rfl (any_of HT_.out (by kernel_rfl)) (fun _ _ _ h => h) (Or.inr ⟨by rfl, rfl⟩) ?_ ?_; rotate_left; (focus simp only [pt, i64_w, i32_w]; rfl)
              refine pure_ (i := 9) (N := some 21) (v := ?_) (a' := ?_) impl_MapOK.m10 rfl rfl (any_of HT_.out (by kernel_rfl)) (fun _ _ _ h => h) (Or.inl ⟨by rfl, ?_⟩) ?_ ?_; rotate_left; (focus intro w'; go_simp; with_reducible rfl); rotate_left; (focus simp only [pt, i64_w, i32_w]; rfl)
              refine pure_ (i := 10) (N := some 22) (v := ?_) (a' := ?_) impl_MapOK.m11 rfl rfl (any_of HT_.out (by kernel_rfl)) (fun _ _ _ h => h) (Or.inl ⟨by rfl, ?_⟩) ?_ ?_; rotate_left; (focus intro w'; go_simp; with_reducible rfl); rotate_left; (focus simp only [pt, i64_w, i32_w]; rfl)
              refine pure_ (i := 11) (N := some 23) (v := undef) (a' := ?_) impl_MapOK.m12 rfl rfl (any_of HT_.out (by kernel_rfl)) (fun _ _ _ h => h) (Or.inr ⟨by rfl, rfl⟩) ?_ ?_; rotate_left; (focus simp only [pt, i64_w, i32_w]; rfl)
              refine pure_ (i := 12) (N := some 24) (v := undef) (a' := ?_) impl_MapOK.m13 rfl rfl (any_of HT_.out (by kernel_rfl)) (fun _ _ _ h => h) (Or.inr ⟨by rfl, rfl⟩) ?_ ?_; rotate_left; (focus simp only [pt, i64_w, i32_w]; rfl)
              refine pure_ (i := 13) (N := some 25) (v := undef) (a' := ?_) impl_MapOK.m14 rfl rfl (any_of HT_.out (by kernel_rfl)) (fun _ _ _ h => h) (Or.inr ⟨by rfl, rfl⟩) ?_ ?_; rotate_left; (focus simp only [pt, i64_w, i32_w]; rfl)
              refine pure_ (i := 14) (N := some 26) (v := undef) (a' := ?_) impl_MapOK.m15 rfl rfl (any_of HT_.out (by kernel_rfl)) (fun _ _ _ h => h) (Or.inr ⟨by rfl, rfl⟩) ?_ ?_; rotate_left; (focus simp only [pt, i64_w, i32_w]; rfl)
              refine pure_ (i := 15) (N := some 27) (v := undef) (a' := ?_) impl_MapOK.m16 rfl rfl (any_of HT_.out (by kernel_rfl)) (fun _ _ _ h => h) (Or.inr ⟨by rfl, rfl⟩) ?_ ?_; rotate_left; (focus simp only [pt, i64_w, i32_w]; rfl)
              refine pure_ (i := 16) (N := some 28) (v := undef) (a' := ?_) impl_MapOK.m17 rfl rfl (any_of HT_.out (by kernel_rfl)) (fun _ _ _ h => h) (Or.inr ⟨by rfl, rfl⟩) ?_ ?_; rotate_left; (focus simp only [pt, i64_w, i32_w]; rfl)
              refine pure_ (i := 17) (N := some 29) (v := undef) (a' := ?_) impl_MapOK.m18 rfl rfl (any_of HT_.out (by kernel_rfl)) (fun _ _ _ h => h) (Or.inr ⟨by rfl, rfl⟩) ?_ ?_; rotate_left; (focus simp only [pt, i64_w, i32_w]; rfl)
              refine pure_ (i := 18) (N := some 30) (v := undef) (a' := ?_) impl_MapOK.m19 rfl rfl (any_of HT_.out (by kernel_rfl)) (fun _ _ _ h => h) (Or.inr ⟨by rfl, rfl⟩) ?_ ?_; rotate_left; (focus simp only [pt, i64_w, i32_w]; rfl)
              refine pure_ (i := 19) (N := some 31) (v := undef) (a' := ?_) impl_MapOK.m26 rfl rfl (any_of HT_.out (by kernel_rfl)) (fun _ _ _ h => h) (Or.inr ⟨by rfl, rfl⟩) ?_ ?_; rotate_left; (focus simp only [pt, i64_w, i32_w]; rfl)
              refine pure_ (i := 20) (N := some 32) (v := undef) (a' := ?_) impl_MapOK.m21 rfl rfl (any_of HT_.out (by kernel_rfl)) (fun _ _ _ h => h) (Or.inr ⟨by rfl, rfl⟩) ?_ ?_; rotate_left; (focus simp only [pt, i64_w, i32_w]; rfl)
              refine pure_ (i := 21) (N := some 33) (v := undef) (a' := ?_) impl_MapOK.m22 rfl rfl (any_of HT_.out (by kernel_rfl)) (fun _ _ _ h => h) (Or.inr ⟨by rfl, rfl⟩) ?_ ?_; rotate_left; (focus simp only [pt, i64_w, i32_w]; rfl)
              refine pure_ (i := 22) (N := some 34) (v := undef) (a' := ?_) impl_MapOK.m23 rfl rfl (any_of HT_.out (by kernel_rfl)) (fun _ _ _ h => h) (Or.inr ⟨by rfl, rfl⟩) ?_ ?_; rotate_left; (focus simp only [pt, i64_w, i32_w]; rfl)
              refine pure_ (i := 23) (N := some 35) (v := undef) (a' := ?_) impl_MapOK.m24 rfl rfl (any_of HT_.out (by kernel_rfl)) (fun _ _ _ h => h) (Or.inr ⟨by rfl, rfl⟩) ?_ ?_; rotate_left; (focus simp only [pt, i64_w, i32_w]; rfl)
              refine pure_ (i := 24) (N := some 36) (v := ?_) (a' := ?_) impl_MapOK.m25 rfl rfl (any_of HT_.out (by kernel_rfl)) (fun _ _ _ h => h) (Or.inl ⟨by rfl, ?_⟩) ?_ ?_; rotate_left; (focus intro w'; go_simp; with_reducible rfl); rotate_left; (focus simp only [pt, i64_w, i32_w]; rfl)
              refine done_ (done_of HT_.out (by kernel_rfl)) ?_
              try go_wp2
              go_ret
              exact ⟨rE, bW⟩
          · rw [if_neg c4] at H
            exact absurd H (by simp)
        · rw [if_neg c3] at H
          exact absurd H (by simp)
      · rw [if_neg c2] at H
        have c2b0 : decide (x7_1 < (l0.length : Int)) = false := decide_eq_false c2
        clear c2
        obtain rfl := Option.some.inj H
        go_wp2
        go_ret
        exact ⟨rE, bW⟩
end Go.Proofs.Ytcpljigliklgcaa.Q
end

section
namespace Go.Proofs.Ytcpljigliklgcaa.Q
open Go.RowKit Go.Proofs.YtcpljigliklgcaaW.PrintWords Go.Proofs.YtcpljigliklgcaaW.PrintLast Go.Proofs.YtcpljigliklgcaaW.PrintMore
attribute [local go_sem] max2_int min2_int max_two min_two max_three min_three max_four min_four   -- for this text's walks alone
set_option linter.unusedVariables false
set_option linter.unusedSimpArgs false
attribute [local go_sem] bin_leq bin_gtr bin_geq
def impl_Entry_100.f (l0 : List (S51)) : Option (Bool) := some (decide ((l0.length : Int) ≤ 4096))
set_option maxHeartbeats 8000000 in
set_option maxRecDepth 100000 in
theorem impl_Entry_100.calls (A0 : Option Addr) (c0 : Nat) (l0 : List (S51)) (r : Bool) (w : World) (hr0 : Kd.C k51 w A0 l0.length l0) (hc0 : l0.length ≤ c0) (h : impl_Entry_100.f l0 = some r) :
    Calls Try.prog 100 #[.slice A0 l0.length c0] w fun e w' => e = .returned (.bool r) ∧ Drawn0 w w' := by
  have HR0 := Aside0.mk hr0
  have HC0 := Aside0.mk hc0
  clear hr0 hc0
  have H : (some (decide ((l0.length : Int) ≤ 4096))) = some r := h
  clear h
  obtain rfl := Option.some.inj H
  go_enter Try.func100, Try.ntmps100
  go_wp2
  go_ret
  exact ⟨by first | rfl | (simp; done) | (simp [*]; done), by repeat (first | exact Drawn0.refl _ | apply Drawn0.step)⟩
end Go.Proofs.Ytcpljigliklgcaa.Q
end

section
namespace Go.Proofs.Ytcpljigliklgcaa.Q
open Go.RowKit Go.Proofs.YtcpljigliklgcaaW.PrintWords Go.Proofs.YtcpljigliklgcaaW.PrintLast Go.Proofs.YtcpljigliklgcaaW.PrintMore
attribute [local go_sem] max2_int min2_int max_two min_two max_three min_three max_four min_four   -- for this text's walks alone
set_option linter.unusedVariables false
set_option linter.unusedSimpArgs false
attribute [local go_sem] bin_leq bin_gtr bin_geq
def impl_isText.f (a0 : ByteArray) : Option (Bool) := some (decide ((a0.size : Int) ≤ 65536))
set_option maxHeartbeats 8000000 in
set_option maxRecDepth 100000 in
theorem impl_isText.calls (a0 : ByteArray) (r : Bool) (w : World) (h : impl_isText.f a0 = some r) :
    Calls Try.prog 104 #[.string a0] w fun e w' => e = .returned (.bool r) ∧ Drawn0 w w' := by
  have H : (some (decide ((a0.size : Int) ≤ 65536))) = some r := h
  clear h
  obtain rfl := Option.some.inj H
  go_enter Try.func104, Try.ntmps104
  go_wp2
  go_ret
  exact ⟨by first | rfl | (simp; done) | (simp [*]; done), by repeat (first | exact Drawn0.refl _ | apply Drawn0.step)⟩
end Go.Proofs.Ytcpljigliklgcaa.Q
end

section
namespace Go.Proofs.Ytcpljigliklgcaa.Q
open Go.RowKit Go.Proofs.YtcpljigliklgcaaW.PrintWords Go.Proofs.YtcpljigliklgcaaW.PrintLast Go.Proofs.YtcpljigliklgcaaW.PrintMore
attribute [local go_sem] max2_int min2_int max_two min_two max_three min_three max_four min_four   -- for this text's walks alone
set_option linter.unusedVariables false
set_option linter.unusedSimpArgs false
attribute [local go_sem] bin_leq bin_gtr bin_geq
theorem eqnil_ {P : Program} (w : World) (t e : TypeId) (a : Option Addr) (n c : Nat) (h : P.underlying t = some (.slice e)) : (binOp .eql t (.slice a n c) (.slice none 0 0)).run P w = .ok (.bool a.isNone) w := Lib.run_eql_slice_nil w t e a n c 0 0 h
end Go.Proofs.Ytcpljigliklgcaa.Q
end

section
namespace Go.Proofs.Ytcpljigliklgcaa.Q
open Go.RowKit Go.Proofs.YtcpljigliklgcaaW.PrintWords Go.Proofs.YtcpljigliklgcaaW.PrintLast Go.Proofs.YtcpljigliklgcaaW.PrintMore
attribute [local go_sem] max2_int min2_int max_two min_two max_three min_three max_four min_four   -- for this text's walks alone
set_option linter.unusedVariables false
set_option linter.unusedSimpArgs false
attribute [local go_sem] bin_leq bin_gtr bin_geq
def impl_Entry_94.f (l0 : List (S51)) : Option ((List (S51))) := if l0.length < 5864062014805 then some l0 else none
set_option maxHeartbeats 8000000 in
set_option maxRecDepth 100000 in
theorem impl_Entry_94.calls (A0 : Option Addr) (c0 : Nat) (l0 : List (S51)) (r : List (S51)) (w : World) (hr0 : Kd.C k51 w A0 l0.length l0) (hc0 : l0.length ≤ c0) (h : impl_Entry_94.f l0 = some r) :
    Calls Try.prog 94 #[.slice A0 l0.length c0] w fun e w' => ∃ v0_ : Value, e = .returned (v0_) ∧ Kd.R k51 51 w' w.heap.size (fun _ => True) v0_ r ∧ Below w.heap.size w w' := by
  by_cases c5 : l0.length < 5864062014805
  · unfold impl_Entry_94.f at h
    rw [if_pos c5] at h
    obtain rfl := Option.some.inj h
    clear h
    cases A0 with
    | none =>
      have hz : l0 = [] := by
        rcases Nat.eq_zero_or_pos l0.length with h0 | h0
        · exact List.eq_nil_of_length_eq_zero h0
        · obtain ⟨ad, e, _⟩ := hr0.2.2 h0
          cases e
      subst hz
      clear hr0 c5
      have hq := fun w : World => eqnil_ (P := Try.prog) w 24 51 none 0 c0 Try.underlying24
      go_enter Try.func94, Try.ntmps94
      go_wp2
      go_ret
      exact ⟨_, rfl, Kd.R_nil _ _ _ _ _, Below.refl _ _⟩
    | some ad =>
      have HR0 := Aside0.mk hr0
      have HC0 := Aside0.mk hc0
      have LM := Aside0.mk c5
      clear hr0 hc0 c5
      have HB := Aside0.mk (Below.refl w.heap.size w)
      have hq := fun w : World => eqnil_ (P := Try.prog) w 24 51 (some ad) l0.length c0 Try.underlying24
      go_enter Try.func94, Try.ntmps94
      go_wp2_with (first | ((with_reducible refine gate_dst (N := 5) rfl ?_); refine Kd.R_lit k51 _ 51 ?hg (N := 5) ?hd (xs := ([] : List (S51))) (inner := []) (ok := fun _ => True) (okp := fun _ => True) ?hr ?hp (fun _ hk => hk) trivial (Below.refl _ _) (Nat.le_refl _) (by simp) ?_; (case hd => rfl); (case hg => rfl); (case hr => first | (go_simp; done) | (go_simp; rfl)); (case hp => exact (Reps.none _ _)); intro v881 w11 ho12 hb hg_ hnew_; clear hg_ hnew_; have n0_ := Aside0.mk (Kd.R_lower ho12 (below_size HB.out)); have n1_ := Aside0.mk (below_step HB.out hb); clear HB; have HO882 := n0_; have HB := n1_; clear n0_ n1_; clear hb ho12) | ((with_reducible refine gate_builtin (b := .append) (xs := #[.tmp 5, .tmp 6]) rfl ?_); at_builtin; refine Kd.R_append_rows k51 (w0 := w) w.heap.size rfl (.tmp 5) (.tmp 6) 24 51 (.agg #[(.string ⟨#[]⟩), (.int .i64 0)]) 24 rfl Try.underlying24 info51 rfl (by decide) (by omega) v881 [] l0 _ _ _ (fun _ => True) (fun _ => False) rfl rfl ?aO ?aR (fun _ _ h => h) (fun _ h => h.elim) ?aF ?aB ?aS ?aL ?_; (case aR => exact (Kd.C_below HR0.out HB.out)); (case aB => exact HB.out); (case aF => exact (fun _ _ => trivial)); (case aO => exact HO882.out); (case aS => exact (below_size HB.out)); (case aL => have := LM.out; simp only [List.length_nil]; omega); intro v884 w13 ho hb hg hat; rw [List.nil_append] at ho; have n0_ := Aside0.mk (hb); have n1_ := Aside0.mk (ho); clear HB; clear HO882; have HB := n0_; have HO885 := n1_; clear n0_ n1_; clear ho hb hg hat))
      go_ret
      exact ⟨_, rfl, HO885.out, HB.out⟩
  · unfold impl_Entry_94.f at h
    rw [if_neg c5] at h
    cases h
end Go.Proofs.Ytcpljigliklgcaa.Q
end

section
namespace Go.Proofs.Ytcpljigliklgcaa.Q
open Go.RowKit Go.Proofs.YtcpljigliklgcaaW.PrintWords Go.Proofs.YtcpljigliklgcaaW.PrintLast Go.Proofs.YtcpljigliklgcaaW.PrintMore
attribute [local go_sem] max2_int min2_int max_two min_two max_three min_three max_four min_four   -- for this text's walks alone
set_option linter.unusedVariables false
set_option linter.unusedSimpArgs false
attribute [local go_sem] bin_leq bin_gtr bin_geq
def Asks_Entry (g : Nat) (lb : Array Value) (p : S51 → Bool) (w : World) (l : List S51) : Prop :=
  ∀ (W : World) (x : S51), Below w.heap.size w W → x ∈ l → Calls Try.prog g (#[.agg #[.string x.f0, .int .i64 x.f1]] ++ lb) W fun e w' => e = .returned (.bool (p x)) ∧ Below W.heap.size W w'
set_option maxHeartbeats 2000000 in
set_option maxRecDepth 100000 in
theorem idxF_Entry (g : Nat) (lb : Array Value) (eg : ∀ args w, (callFunc g args).run Try.prog w = .ok (.enter g args) w) (p : S51 → Bool) (A0 : Option Addr) (c0 : Nat) (l0 : List S51) (w : World) (hr0 : Kd.C k51 w A0 l0.length l0) (hc0 : l0.length ≤ c0) (hp : Asks_Entry g lb p w l0) :
    Calls Try.prog 235 #[.slice A0 l0.length c0, .func (.func g) #[] lb] w fun e w' => e = .returned (.int .i64 (idxI p l0)) ∧ Below w.heap.size w w' := by
  have HM : l0.length ≤ 9223372036854775807 := hr0.2.1
  have HR0 := Aside0.mk hr0
  have HP := Aside0.mk hp
  clear hr0 hc0 hp
  go_enter Try.func235, Try.ntmps235
  go_wp2
  go_loopg [8] l0.length (fun gk v8 w' => ∃ kk : Nat, kk ≤ l0.length ∧ l0.length - kk ≤ gk ∧ v8 = .int .i64 kk ∧ Aside0 (∀ j (hj : j < l0.length), j < kk → p l0[j] = false) ∧ Aside0 (Below w.heap.size w w'))
  case atStart => exact ⟨0, Nat.zero_le _, by omega, rfl, ⟨fun j hj h => absurd h (Nat.not_lt_zero _)⟩, ⟨Below.refl _ _⟩⟩
  case round =>
    obtain ⟨kk, hkk, hg, rfl, HA, HB⟩ := hrel
    by_cases hlt : kk < l0.length
    · have hltz : (kk : Int) < (l0.length : Int) := by omega
      have HRW := Aside0.mk (Kd.C_below HR0.out HB.out)
      obtain ⟨ad, e1, hx0, hx1⟩ := at_T51 HRW.out (kk : Int) (by omega) hltz
      cases e1
      have ex : rd_T51 l0 (kk : Int) = l0[kk] := by simp [rd_T51, List.getD_eq_getElem?_getD, List.getElem?_eq_getElem hlt]
      rw [ex] at hx0 hx1
      simp only [Int.toNat_natCast] at hx0 hx1
      have hcall := HP.out _ l0[kk] HB.out (List.getElem_mem hlt)
      obtain ⟨y, hy⟩ : ∃ y, y = l0[kk] := ⟨_, rfl⟩
      rw [← hy] at hx0 hx1 hcall
      have HY := Aside0.mk hy
      clear hy ex
      cases hq : p y with
      | true =>
        rw [hq] at hcall
        have HC := Aside0.mk hcall
        have HQ := Aside0.mk hq
        clear hcall hq
        go_wp2_with ((with_reducible refine HC.out.mono ?_); rintro e w' ⟨rfl, hb'⟩)
        go_ret
        refine ⟨?_, below_then HB.out HB.out.size hb'⟩
        rw [idxI_some hlt (fun j hj => HA.out j (by omega) hj) (by rw [← HY.out]; exact HQ.out)]; rfl
      | false =>
        rw [hq] at hcall
        have HC := Aside0.mk hcall
        have HQ := Aside0.mk hq
        clear hcall hq
        go_wp2_with ((with_reducible refine HC.out.mono ?_); rintro e w' ⟨rfl, hb'⟩)
        go_roundg (l0.length - (kk + 1))
        case measure => omega
        case rel =>
          refine ⟨kk + 1, by omega, by omega, by go_num, ⟨fun j hj h => ?_⟩, ⟨below_then HB.out HB.out.size hb'⟩⟩
          by_cases e : j = kk
          · subst e
            rw [← HY.out]; exact HQ.out
          · exact HA.out j hj (by omega)
    · have hltz : ¬ (kk : Int) < (l0.length : Int) := by omega
      obtain rfl : kk = l0.length := by omega
      go_wp2
      go_ret
      exact ⟨by rw [idxI_none (fun j hj => HA.out j hj (by omega))]; rfl, HB.out⟩
end Go.Proofs.Ytcpljigliklgcaa.Q
end

section
namespace Go.Proofs.Ytcpljigliklgcaa.Q
open Go Go.RowKit Go.Proofs.YtcpljigliklgcaaW.PrintWords Go.Proofs.YtcpljigliklgcaaW.PrintLast
set_option linter.unusedVariables false
set_option linter.unusedSimpArgs false
theorem setCells_setRow (g o : Nat) (t : TypeId) (vs : List Value) (cur : Array Value) (w : World) (hg : w.heap[g]? = some (.cells cur t (0, 0))) (hl : o + vs.length ≤ cur.size) :
    w.setCells g o vs = w.setRow g (cur.toList.take o ++ vs ++ cur.toList.drop (o + vs.length)).toArray := by
  induction vs generalizing o cur w with
  | nil =>
    simp only [World.setCells, List.append_nil, List.length_nil, Nat.add_zero, List.take_append_drop, Array.toArray_toList]
    rw [setRow_self w g cur t (0, 0) hg]
  | cons v rest ih =>
    have hi : o < cur.size := by simp at hl; omega
    rw [World.setCells, setCell_eq_setRow w g o cur t (0, 0) v hg, ih (o + 1) (cur.setIfInBounds o v) _ (setRow_heap w g cur _ t _ hg) (by simp at hl ⊢; omega), setRow_setRow]
    congr 2
    have e := list_seg_step cur.toList o v rest (by simp at hl ⊢; omega)
    simpa [Array.toList_setIfInBounds, Nat.add_assoc] using e
theorem run_clear_rowk {P : Program} (w : World) (t e ty : TypeId) (z : Value) (n : Nat) (ht : P.underlying t = some (.slice e)) (hv : ∀ w, (zeroValue e).run P w = .ok z w) (h1 : ∀ u ∈ (Builtin.zeroCells z.cells n).toList, u.oneCell' = true) (g o c : Nat) (cur : Array Value) (te : TypeId) (hn : 0 < n)
    (hg : w.heap[g]? = some (.cells cur te (0, 0))) (hl : o + (Builtin.zeroCells z.cells n).toList.length ≤ cur.size) :
    (Builtin.clear_ #[t] ty #[.slice (some ⟨g, o, none⟩) n c]).run P w = .ok (.tuple #[]) (w.setRow g (cur.toList.take o ++ (Builtin.zeroCells z.cells n).toList ++ cur.toList.drop (o + (Builtin.zeroCells z.cells n).toList.length)).toArray) := by
  have hst := run_storeCells_at P g o te (Builtin.zeroCells z.cells n).toList 0 cur w hg (by simpa using hl) h1
  simp only [Nat.add_zero] at hst
  obtain ⟨m, rfl⟩ : ∃ m, n = m + 1 := ⟨n - 1, by omega⟩
  simp [Builtin.clear_, run_underlying ht, hv, hst]
section
variable {α : Type} {enc : α → List Value} {k : Nat}
theorem flat_len (hk : ∀ x, (enc x).length = k) : ∀ xs : List α, (xs.flatMap enc).length = xs.length * k
  | [] => by simp
  | x :: xs => by rw [List.flatMap_cons, List.length_append, hk, flat_len hk xs, List.length_cons, Nat.add_mul]; omega
theorem flat_take (hk : ∀ x, (enc x).length = k) : ∀ (xs : List α) (i : Nat), (xs.flatMap enc).take (i * k) = (xs.take i).flatMap enc
  | xs, 0 => by simp
  | [], i + 1 => by simp
  | x :: xs, i + 1 => by
    have e : (i + 1) * k = k + i * k := by rw [Nat.add_mul]; omega
    rw [List.flatMap_cons, List.take_succ_cons, List.flatMap_cons, ← flat_take hk xs i, e, List.take_append, hk]
    rw [List.take_of_length_le (by rw [hk]; omega), Nat.add_sub_cancel_left]
theorem flat_drop (hk : ∀ x, (enc x).length = k) : ∀ (xs : List α) (i : Nat), (xs.flatMap enc).drop (i * k) = (xs.drop i).flatMap enc
  | xs, 0 => by simp
  | [], i + 1 => by simp
  | x :: xs, i + 1 => by
    have e : (i + 1) * k = k + i * k := by rw [Nat.add_mul]; omega
    rw [List.flatMap_cons, List.drop_succ_cons, ← flat_drop hk xs i, e, List.drop_append, hk]
    rw [List.drop_eq_nil_of_le (by rw [hk]; omega), List.nil_append, Nat.add_sub_cancel_left]
theorem reps_flat (hk : ∀ x, (enc x).length = k) {xs : List α} {cs : List Value} (h : Reps (fun x c => c = enc x) k xs cs) : cs = xs.flatMap enc := by
  obtain ⟨hl, hr⟩ := h
  induction xs generalizing cs with
  | nil =>
    rw [List.length_nil, Nat.zero_mul] at hl
    rw [List.eq_nil_of_length_eq_zero hl]
    rfl
  | cons x xs ih =>
    have h0 := hr 0 x rfl
    rw [Nat.zero_mul, List.drop_zero] at h0
    have e : cs = cs.take k ++ cs.drop k := (List.take_append_drop k cs).symm
    rw [List.length_cons, Nat.add_mul, Nat.one_mul] at hl
    have h2 := ih (cs := cs.drop k) (by rw [List.length_drop, hl]; omega) (fun j p hj => by
      have h3 := hr (j + 1) p (by simpa using hj)
      rw [List.drop_drop]
      have e2 : k + j * k = (j + 1) * k := by rw [Nat.add_mul]; omega
      rw [e2]
      exact h3)
    rw [e, h0, h2, List.flatMap_cons]
theorem flat_reps (hk : ∀ x, (enc x).length = k) (xs : List α) : Reps (fun x c => c = enc x) k xs (xs.flatMap enc) := by
  refine ⟨flat_len hk xs, fun j p hj => ?_⟩
  obtain ⟨hj2, rfl⟩ := List.getElem?_eq_some_iff.mp hj
  rw [flat_drop hk, List.drop_eq_getElem_cons hj2, List.flatMap_cons, List.take_append, hk]
  rw [List.take_of_length_le (by rw [hk]; omega), Nat.sub_self, List.take_zero, List.append_nil]
variable {d : Kd α} {e base : Nat} {ok : Nat → Prop} {w : World} {v : Value} {xs : List α}
theorem flatR_open (hM : ∀ {w base ok x cs}, d.M w base ok x cs ↔ cs = enc x) (hk : ∀ x, (enc x).length = k) (hsz : d.sz = k) (h : Kd.R d e w base ok v xs) (hp : 0 < xs.length) :
    ∃ g cap cur, v = .slice (some ⟨g, 0, none⟩) xs.length cap ∧ base ≤ g ∧ ok g ∧ w.heap[g]? = some (.cells cur e (0, 0)) ∧ xs.length ≤ cap ∧ cap ≤ maxLen ∧ cur.size = cap * k ∧ cur.toList.take (xs.length * k) = xs.flatMap enc := by
  obtain ⟨h0, inner, ⟨hl, ho⟩, hr⟩ := h
  have e1 := reps_flat (k := d.sz) (fun x => (hk x).trans hsz.symm) (hr.imp_ (fun _ _ hp => hM.mp hp))
  rcases ho with ⟨rfl, hz⟩ | ⟨g, cap, cur, rfl, hb, hg, hn, hm, hs, ht⟩
  · omega
  · subst hsz
    exact ⟨g, cap, cur, rfl, hb, h0 g rfl, hg, hn, hm, hs, ht.trans e1⟩
theorem flatR_mk (hM : ∀ {w base ok x cs}, d.M w base ok x cs ↔ cs = enc x) (hk : ∀ x, (enc x).length = k) (hsz : d.sz = k) {g cap n : Nat} {cur : Array Value} (hn0 : n = xs.length) (hb : base ≤ g) (hok : ok g) (hg : w.heap[g]? = some (.cells cur e (0, 0))) (hn : n ≤ cap) (hm : cap ≤ maxLen) (hs : cur.size = cap * k) (ht : cur.toList.take (n * k) = xs.flatMap enc) :
    Kd.R d e w base ok (.slice (some ⟨g, 0, none⟩) n cap) xs := by
  subst hsz
  subst hn0
  exact ⟨fun j hj => by have : g = j := by simpa [Value.ownBlock] using hj
                        exact this ▸ hok, xs.flatMap enc, ⟨flat_len hk xs, .inr ⟨g, cap, cur, rfl, hb, hg, hn, hm, hs, ht⟩⟩, (flat_reps hk xs).imp_ (fun _ _ h => hM.mpr h)⟩
end
theorem kept_setRow {w W : World} {S : Nat → Prop} (h : Kept w W S) {g : Nat} (hg : S g ∨ w.heap.size ≤ g) (cs : Array Value) : Kept w (W.setRow g cs) S :=
  h.then_ (S2 := fun k => k = g) ⟨by simp, fun i _ hn => setRow_other W g i cs hn⟩ (fun k hk => by rw [hk]; exact hg)
def encE (x : S51) : List Value := [.string x.f0, .int .i64 x.f1]
theorem encE_len (x : S51) : (encE x).length = 2 := rfl
theorem entM {w : World} {base : Nat} {ok : Nat → Prop} {x : S51} {cs : List Value} : k51.M w base ok x cs ↔ cs = encE x :=
  ⟨fun h => k51_openM h, fun h => by rw [h]; exact k51_mkM w base ok x⟩
end Go.Proofs.Ytcpljigliklgcaa.Q
end

section
namespace Go.Proofs.Ytcpljigliklgcaa.Q
open Go.RowKit Go.Proofs.YtcpljigliklgcaaW.PrintWords Go.Proofs.YtcpljigliklgcaaW.PrintLast Go.Proofs.YtcpljigliklgcaaW.PrintMore
attribute [local go_sem] max2_int min2_int max_two min_two max_three min_three max_four min_four   -- for this text's walks alone
set_option linter.unusedVariables false
set_option linter.unusedSimpArgs false
attribute [local go_sem] bin_leq bin_gtr bin_geq
theorem idxI_cases_ (p : S51 → Bool) (l : List S51) : (idxI p l = -1 ∧ ∀ x, x ∈ l → p x = false) ∨ ∃ (k : Nat) (hk : k < l.length), idxI p l = (k : Int) ∧ p l[k] = true ∧ ∀ j (hj : j < l.length), j < k → p l[j] = false := by
  unfold idxI
  cases hx : l.findIdx? p with
  | none => exact .inl ⟨rfl, List.findIdx?_eq_none_iff.mp hx⟩
  | some i =>
    obtain ⟨hi, hp, ha⟩ := List.findIdx?_eq_some_iff_getElem.mp hx
    exact .inr ⟨i, hi, rfl, hp, fun j hj hlt => by simpa using ha j hlt⟩
def keptE (p : S51 → Bool) (l : List S51) (j : Nat) : List S51 := (l.take j).filter (fun x => !p x)
theorem keptE_len (p : S51 → Bool) (l : List S51) (j : Nat) : (keptE p l j).length ≤ j := by
  unfold keptE
  exact Nat.le_trans (List.length_filter_le _ _) (by rw [List.length_take]; omega)
theorem keptE_next (p : S51 → Bool) (l : List S51) (j : Nat) (hj : j < l.length) : keptE p l (j + 1) = keptE p l j ++ (if p l[j] = true then [] else [l[j]]) := by
  unfold keptE
  rw [List.take_add_one, List.getElem?_eq_getElem hj, List.filter_append]
  congr 1
  cases h : p l[j] <;> simp [h]
theorem keptE_start (p : S51 → Bool) (l : List S51) (k : Nat) (hk : k < l.length) (h : p l[k] = true) (ha : ∀ j (hj : j < l.length), j < k → p l[j] = false) : keptE p l (k + 1) = l.take k := by
  rw [keptE_next p l k hk, if_pos h, List.append_nil]
  unfold keptE
  rw [List.filter_eq_self]
  intro x hx
  obtain ⟨j, hj, rfl⟩ := List.mem_take_iff_getElem.mp hx
  rw [ha j (by omega) (by omega)]
  rfl
theorem keptE_all (p : S51 → Bool) (l : List S51) : keptE p l l.length = l.filter (fun x => !p x) := by
  unfold keptE
  rw [List.take_length]
theorem high_cell {cur : Array Value} {l : List S51} {n j : Nat} (h : (cur.toList.take (n * 2)).drop (j * 2) = (l.drop j).flatMap encE) (hj : j < l.length) : cur[j * 2]? = some (.string l[j].f0) ∧ cur[j * 2 + 1]? = some (.int .i64 l[j].f1) := by
  rw [List.drop_eq_getElem_cons hj, List.flatMap_cons] at h
  have a0 : (cur.toList.take (n * 2))[j * 2]? = some (.string l[j].f0) := by
    have := congrArg (fun q => q[0]?) h
    simpa [encE] using this
  have a1 : (cur.toList.take (n * 2))[j * 2 + 1]? = some (.int .i64 l[j].f1) := by
    have := congrArg (fun q => q[1]?) h
    simpa [encE] using this
  obtain ⟨h0, e0⟩ := List.getElem?_eq_some_iff.1 a0
  obtain ⟨h1, e1⟩ := List.getElem?_eq_some_iff.1 a1
  rw [List.getElem_take] at e0 e1
  rw [List.length_take] at h0 h1
  refine ⟨?_, ?_⟩
  · rw [← Array.getElem?_toList, List.getElem?_eq_some_iff]
    exact ⟨by omega, e0⟩
  · rw [← Array.getElem?_toList, List.getElem?_eq_some_iff]
    exact ⟨by omega, e1⟩
theorem zc_len (q : Nat) : (Builtin.zeroCells (Value.agg #[.string ⟨#[]⟩, .int .i64 0]).cells q).toList.length = q * 2 := by
  simp [Builtin.zeroCells, Value.cells]
theorem zc_one (q : Nat) : ∀ u ∈ (Builtin.zeroCells (Value.agg #[.string ⟨#[]⟩, .int .i64 0]).cells q).toList, u.oneCell' = true := by
  intro u hu
  simp only [Builtin.zeroCells, Value.cells] at hu
  rw [Array.mem_toList_iff, Array.mem_map] at hu
  obtain ⟨k, _, rfl⟩ := hu
  have h : k % 2 = 0 ∨ k % 2 = 1 := by omega
  show ((#[Value.string ⟨#[]⟩, .int .i64 0] : Array Value)[k % 2]!).oneCell' = true
  rcases h with h | h <;> rw [h] <;> rfl
def AsksB_Entry (g : Nat) (lb : Array Value) (p : S51 → Bool) (w0 : World) : Prop :=
  ∀ (W : World) (x : S51), Below w0.heap.size w0 W → Calls Try.prog g (#[.agg #[.string x.f0, .int .i64 x.f1]] ++ lb) W fun e w' => e = .returned (.bool (p x)) ∧ Below W.heap.size W w'
set_option maxHeartbeats 8000000 in
set_option maxRecDepth 100000 in
theorem delF_Entry (f : Nat) (lb : Array Value) (eg : ∀ args w, (callFunc f args).run Try.prog w = .ok (.enter f args) w) (p : S51 → Bool) (l0 : List S51) (w0 w : World) (P0_ : Nat → Prop) (v : Value) (hB : Below w0.heap.size w0 w) (ho0 : Kd.R k51 51 w w0.heap.size P0_ v l0) (hp : AsksB_Entry f lb p w0) :
    Calls Try.prog 175 #[v, .func (.func f) #[] lb] w fun e w' => ∃ v0_ : Value, e = .returned v0_ ∧ Kd.R k51 51 w' w0.heap.size P0_ v0_ (l0.filter (fun x => !p x)) ∧ Below w0.heap.size w0 w' ∧ Kept w w' P0_ := by
  obtain ⟨A0, c0, rfl, hc0, hC⟩ := Kd.R_reads ho0
  have hIF := idxF_Entry f lb eg p A0 c0 l0 w hC hc0 (fun W x hW hx => hp W x (below_then hB hB.size hW))
  rcases idxI_cases_ p l0 with ⟨e1, ha⟩ | ⟨k0, hk0, e1, ht, ha⟩
  · rw [e1] at hIF
    have hf : l0.filter (fun x => !p x) = l0 := List.filter_eq_self.mpr (fun x hx => by rw [ha x hx]; rfl)
    rw [hf]
    have HI := Aside0.mk hIF
    have HO := Aside0.mk ho0
    have HB := Aside0.mk hB
    clear hIF ho0 hB hf ha hC hp e1
    go_enter Try.func175, Try.ntmps175
    go_wp2_with (refine HI.out.mono ?_; rintro e w' ⟨rfl, hb⟩; have HB1 := Aside0.mk hb; clear hb)
    go_ret
    exact ⟨_, rfl, Kd.R_below HO.out HB1.out, below_then HB.out HB.out.size HB1.out, Kept.of_below HB1.out _⟩
  · obtain ⟨g, cap, cur, e9, hbg, hok, hg, hnc, hm, hs, ht9⟩ := flatR_open (enc := encE) entM encE_len rfl ho0 (by omega)
    injection e9 with e10 e11 e12
    subst e10 e12
    rw [e1] at hIF
    unfold maxLen at hm
    obtain ⟨n, hn⟩ : ∃ n, n = l0.length := ⟨_, rfl⟩
    have hstart := keptE_start p l0 k0 hk0 ht ha
    have hall := keptE_all p l0
    have e2 : (cur.toList.take (k0 * 2)) = (l0.take k0).flatMap encE := by
      rw [← flat_take encE_len, ← ht9, List.take_take, Nat.min_eq_left (by omega)]
    have e3 : (cur.toList.take (n * 2)).drop ((k0 + 1) * 2) = (l0.drop (k0 + 1)).flatMap encE := by
      rw [hn, ht9, flat_drop encE_len]
    have hgl := blk_lt hg
    have HI := Aside0.mk hIF
    have HB0 := Aside0.mk hB
    have HG0 := Aside0.mk hg
    have HP := Aside0.mk hp
    have HN := Aside0.mk hn
    have HST := Aside0.mk (And.intro hstart (And.intro e2 e3))
    have HALL := Aside0.mk hall
    have hne1 : ((k0 : Int) == -1) = false := beq_eq_false_iff_ne.2 (by omega)
    rw [← hn] at hk0 hnc hc0 HI ⊢
    clear hIF hB ho0 hg hp ht ha hC e1 e2 e3 ht9 hstart hall hn
    go_enter Try.func175, Try.ntmps175
    go_wp2_with (refine HI.out.mono ?_; rintro e w1 ⟨rfl, hb⟩; have HB1 := Aside0.mk hb; clear hb)
    go_loopg [5, 6, 7] n (fun gk s5 s6 _ wr => ∃ (i j : Nat) (cur : Array Value), s5 = .int .i64 i ∧ s6 = .int .i64 j ∧ i < j ∧ j ≤ n ∧ n - j ≤ gk ∧ Aside0 (i = (keptE p l0 j).length) ∧ Aside0 (wr.heap[g]? = some (.cells cur 51 (0, 0))) ∧ Aside0 (cur.size = c0 * 2) ∧ Aside0 (cur.toList.take (i * 2) = (keptE p l0 j).flatMap encE) ∧ Aside0 ((cur.toList.take (n * 2)).drop (j * 2) = (l0.drop j).flatMap encE) ∧ Aside0 (Below w0.heap.size w0 wr) ∧ Aside0 (Kept w wr P0_))
    case atStart =>
      refine ⟨k0, k0 + 1, cur, rfl, by go_num, by omega, by omega, by omega, ⟨?_⟩, ⟨(HB1.out.block g hgl).trans HG0.out⟩, ⟨hs⟩, ⟨?_⟩, ⟨HST.out.2.2⟩, ⟨below_then HB0.out HB0.out.size HB1.out⟩, ⟨Kept.of_below HB1.out _⟩⟩
      · rw [HST.out.1, List.length_take]
        have := HN.out
        omega
      · rw [HST.out.1]
        exact HST.out.2.1
    case round =>
      obtain ⟨i, j, cu, rfl, rfl, hij, hjn, hgk, HL, HG, HS, HT, HH, HB, HK⟩ := hrel
      by_cases hlt : j < n
      · have hltz : (j : Int) < (n : Int) := by omega
        have hjl : j < l0.length := by have := HN.out; omega
        obtain ⟨q0, q1⟩ := high_cell HH.out hjl
        have hx0 := (blk_cell HG.out (j * 2)).trans q0
        have hx1 := (blk_cell HG.out (j * 2 + 1)).trans q1
        have hic : i * 2 + 1 < cu.size := by have := HS.out; omega
        obtain ⟨y, hy⟩ : ∃ y, y = l0[j] := ⟨_, rfl⟩
        rw [← hy] at hx0 hx1
        have HY := Aside0.mk hy
        have HC := Aside0.mk (fun (W : World) (hW : Below w0.heap.size w0 W) => HP.out W y hW)
        have hc0 : i * 2 + 1 < c0 * 2 := by have := HS.out; omega
        clear hy q0 q1
        cases hq : p y with
        | true =>
          simp only [hq] at HC
          have HQ := Aside0.mk hq
          clear hq
          go_wp2_with ((with_reducible refine (HC.out _ ?sb).mono ?_); (case sb => repeat (first | exact HB.out | apply below_alloc)); rintro e w10 ⟨rfl, hb'⟩; have HB9 := Aside0.mk hb'; clear hb')
          go_roundg (n - (j + 1))
          case measure => omega
          case rel =>
            have hk := keptE_next p l0 j hjl
            rw [← HY.out, HQ.out, if_pos rfl, List.append_nil] at hk
            refine ⟨i, j + 1, cu, rfl, by go_num, by omega, by omega, Nat.le_refl _, ⟨by rw [hk]; exact HL.out⟩, ⟨blk_below (blk_alloc HG.out _) HB9.out⟩, HS, ⟨by rw [hk]; exact HT.out⟩, ⟨?_⟩, ⟨below_then (below_alloc HB.out _) (below_alloc HB.out _).size HB9.out⟩, ⟨(HK.out.alloc _).below HB9.out⟩⟩
            have h2 := congrArg (List.drop 2) HH.out
            rw [List.drop_drop, List.drop_eq_getElem_cons hjl, List.flatMap_cons] at h2
            have e5 : (j + 1) * 2 = j * 2 + 2 := by omega
            rw [e5]
            exact h2
        | false =>
          simp only [hq] at HC
          have HQ := Aside0.mk hq
          clear hq
          have hitz : (i : Int) < (n : Int) := by omega
          go_wp2_with ((with_reducible refine (HC.out _ ?sb).mono ?_); (case sb => repeat (first | exact HB.out | apply below_alloc)); rintro e w10 ⟨rfl, hb'⟩; have HB9 := Aside0.mk hb'; clear hb'; have hbx := blk_below (g := wr.heap.size) (o := .cells #[.string y.f0, .int .i64 y.f1] 51 (0, 0)) (heap_alloc_new wr _) HB9.out; have hz0 : w10.cell? ⟨wr.heap.size, 0, none⟩ = some (.string y.f0) := (blk_cell hbx 0).trans rfl; have hz1 : w10.cell? ⟨wr.heap.size, 1, none⟩ = some (.int .i64 y.f1) := (blk_cell hbx 1).trans rfl; have HGW := Aside0.mk (blk_below (blk_alloc HG.out (.cells #[.string y.f0, .int .i64 y.f1] 51 (0, 0))) HB9.out); have ho0 : w10.cell? ⟨g, i * 2, none⟩ = some cu[i * 2] := (blk_cell HGW.out (i * 2)).trans (Array.getElem?_eq_getElem (by omega)); have ho1 : w10.cell? ⟨g, i * 2 + 1, none⟩ = some cu[i * 2 + 1] := (blk_cell HGW.out (i * 2 + 1)).trans (Array.getElem?_eq_getElem (by omega)); have hf0 := blk_frozen HGW.out (i * 2); have hf1 := blk_frozen HGW.out (i * 2 + 1); clear hbx)
          go_roundg (n - (j + 1))
          case measure => omega
          case rel =>
            have hk := keptE_next p l0 j hjl
            rw [← HY.out, HQ.out, if_neg (by simp)] at hk
            have hkl : (keptE p l0 (j + 1)).length = i + 1 := by rw [hk, List.length_append, List.length_singleton, ← HL.out]
            have hcs := HS.out
            obtain ⟨c2, hc2⟩ : ∃ c2 : Array Value, c2 = (cu.toList.take (i * 2) ++ [Value.string y.f0, Value.int .i64 y.f1] ++ cu.toList.drop (i * 2 + [Value.string y.f0, .int .i64 y.f1].length)).toArray := ⟨_, rfl⟩
            have hw : w10.setCells g (i * 2) [.string y.f0, .int .i64 y.f1] = w10.setRow g c2 := by
              rw [hc2]
              exact setCells_setRow g (i * 2) 51 [.string y.f0, .int .i64 y.f1] cu w10 HGW.out (by simp only [List.length_cons, List.length_nil]; omega)
            have hAl : (cu.toList.take (i * 2) ++ [Value.string y.f0, .int .i64 y.f1]).length = i * 2 + 2 := by
              rw [List.length_append, List.length_take, Array.length_toList]
              simp only [List.length_cons, List.length_nil]
              omega
            have hbw := below_then (below_alloc HB.out (.cells #[.string y.f0, .int .i64 y.f1] 51 (0, 0))) (below_alloc HB.out _).size HB9.out
            show ∃ (i' j' : Nat) (cur : Array Value), _
            refine ⟨i + 1, j + 1, c2, by go_num, by go_num, by omega, by omega, Nat.le_refl _, ⟨hkl.symm⟩, ⟨?_⟩, ⟨?_⟩, ⟨?_⟩, ⟨?_⟩, ⟨?_⟩, ⟨?_⟩⟩
            · show (w10.setCells g (i * 2) [.string y.f0, .int .i64 y.f1]).heap[g]? = _
              rw [hw]
              exact setRow_heap w10 g cu c2 _ _ HGW.out
            · rw [hc2, List.size_toArray, List.length_append, hAl, List.length_drop, Array.length_toList]
              simp only [List.length_cons, List.length_nil]
              omega
            · rw [hc2, List.toList_toArray, List.take_append_of_le_length (by rw [hAl]; omega), List.take_of_length_le (by rw [hAl]; omega), hk, List.flatMap_append, HT.out]
              rfl
            · have h2 := congrArg (List.drop 2) HH.out
              rw [List.drop_drop, List.drop_eq_getElem_cons hjl, List.flatMap_cons] at h2
              have e5 : (j + 1) * 2 = j * 2 + 2 := by omega
              have e6 : c2.toList.drop (j * 2 + 2) = cu.toList.drop (j * 2 + 2) := by
                rw [hc2, List.toList_toArray, List.drop_append, List.drop_eq_nil_of_le (by rw [hAl]; omega), List.nil_append, hAl, List.drop_drop]
                simp only [List.length_cons, List.length_nil]
                congr 1
                omega
              rw [e5, List.drop_take, e6, ← List.drop_take]
              exact h2
            · show Below w0.heap.size w0 (w10.setCells g (i * 2) [.string y.f0, .int .i64 y.f1])
              rw [hw]
              exact below_setRow hbw hbg _
            · show Kept w (w10.setCells g (i * 2) [.string y.f0, .int .i64 y.f1]) P0_
              rw [hw]
              exact kept_setRow ((HK.out.alloc _).below HB9.out) (.inl hok) _
      · have hltz : ¬ (j : Int) < (n : Int) := by omega
        have hjn2 : j = n := by omega
        obtain ⟨c2, hc2⟩ : ∃ c2 : Array Value, c2 = (cu.toList.take (i * 2) ++ (Builtin.zeroCells (Value.agg #[.string ⟨#[]⟩, .int .i64 0]).cells (n - i)).toList ++ cu.toList.drop (i * 2 + (Builtin.zeroCells (Value.agg #[.string ⟨#[]⟩, .int .i64 0]).cells (n - i)).toList.length)).toArray := ⟨_, rfl⟩
        have hcs := HS.out
        have hcl : ∀ ty, (Builtin.clear_ #[24] ty #[.slice (some ⟨g, i * 2, none⟩) (n - i) (c0 - i)]).run Try.prog wr = .ok (.tuple #[]) (wr.setRow g c2) := fun ty => by
          rw [hc2]
          exact run_clear_rowk (P := Try.prog) wr 24 51 ty (.agg #[.string ⟨#[]⟩, .int .i64 0]) (n - i) Try.underlying24 Try.zeroValue51 (zc_one _) g (i * 2) (c0 - i) cu 51 (by omega) HG.out (by rw [zc_len, hcs]; omega)
        have hsz2 : Aside0 (c2.size = c0 * 2) := ⟨by
          rw [hc2, List.size_toArray, List.length_append, List.length_append, List.length_take, List.length_drop, Array.length_toList, zc_len, hcs]
          omega⟩
        have htk : Aside0 (c2.toList.take (i * 2) = (l0.filter (fun x => !p x)).flatMap encE) := ⟨by
          rw [hc2, List.toList_toArray, List.append_assoc, List.take_append_of_le_length (by rw [List.length_take, Array.length_toList, hcs]; omega), List.take_take, Nat.min_self, HT.out, hjn2, HN.out, HALL.out]⟩
        have hlen : Aside0 (i = (l0.filter (fun x => !p x)).length) := ⟨by rw [← HALL.out, ← HN.out, ← hjn2]; exact HL.out⟩
        have hc0i : ¬ (c0 = i) := by omega
        have hic0 : i ≤ c0 := by omega
        have hin0 : i ≤ n := by omega
        clear hc2 hcs
        go_wp2
        go_ret
        exact ⟨_, rfl, flatR_mk entM encE_len rfl hlen.out hbg hok (setRow_heap wr g cu c2 _ _ HG.out) hic0 (by unfold maxLen; omega) hsz2.out htk.out, below_setRow HB.out hbg _, kept_setRow HK.out (.inl hok) _⟩
def goneE (a b : ByteArray) (x : S51) : Bool := sblt x.f0 a || (!(b.toList == []) && !(sblt x.f0 b))
end Go.Proofs.Ytcpljigliklgcaa.Q
end

section
namespace Go.Proofs.Ytcpljigliklgcaa.Q
open Go.RowKit Go.Proofs.YtcpljigliklgcaaW.PrintWords Go.Proofs.YtcpljigliklgcaaW.PrintLast Go.Proofs.YtcpljigliklgcaaW.PrintMore
attribute [local go_sem] max2_int min2_int max_two min_two max_three min_three max_four min_four   -- for this text's walks alone
set_option linter.unusedVariables false
set_option linter.unusedSimpArgs false
attribute [local go_sem] bin_leq bin_gtr bin_geq
def impl_scan.f (l0 : List (S51)) (a1 : ByteArray) (a2 : ByteArray) : Option ((List (S51))) := if l0.length ≤ 2000000 then some (l0.filter (fun x => !goneE a1 a2 x)) else none
set_option maxHeartbeats 8000000 in
set_option maxRecDepth 100000 in
theorem scan_asks (B1 B2 : Nat) (a b : ByteArray) (w0 : World) (h1 : B1 < w0.heap.size) (h2 : B2 < w0.heap.size) (k1 : w0.cell? ⟨B1, 0, none⟩ = some (.string a)) (k2 : w0.cell? ⟨B2, 0, none⟩ = some (.string b)) :
    AsksB_Entry 176 #[.pointer (some ⟨B1, 0, none⟩), .pointer (some ⟨B2, 0, none⟩)] (goneE a b) w0 := by
  intro W x hW
  have k1' : W.cell? ⟨B1, 0, none⟩ = some (.string a) := (hW.cell (p := ⟨B1, 0, none⟩) h1).trans k1
  have k2' : W.cell? ⟨B2, 0, none⟩ = some (.string b) := (hW.cell (p := ⟨B2, 0, none⟩) h2).trans k2
  have hB1 : B1 < W.heap.size := Nat.lt_of_lt_of_le h1 hW.size
  have hB2 : B2 < W.heap.size := Nat.lt_of_lt_of_le h2 hW.size
  have HBX : Below W.heap.size W (W.alloc (.cells #[.string x.f0, .int .i64 x.f1] 51)) := (Below.refl _ _).alloc (Nat.le_refl _) _
  have k1b : (W.alloc (.cells #[.string x.f0, .int .i64 x.f1] 51)).cell? ⟨B1, 0, none⟩ = some (.string a) := (HBX.cell (p := ⟨B1, 0, none⟩) hB1).trans k1'
  have k2b : (W.alloc (.cells #[.string x.f0, .int .i64 x.f1] 51)).cell? ⟨B2, 0, none⟩ = some (.string b) := (HBX.cell (p := ⟨B2, 0, none⟩) hB2).trans k2'
  have HBA := Aside0.mk HBX
  obtain ⟨t, ht⟩ : ∃ t, (b.toList == ([] : List UInt8)) = t := ⟨_, rfl⟩
  have ht1 : (b.toList != ([] : List UInt8)) = !t := by rw [← ht]; rfl
  obtain ⟨u, hu⟩ : ∃ u, Op.bytesLess x.f0.toList a.toList = u := ⟨_, rfl⟩
  obtain ⟨v, hv⟩ : ∃ v, Op.bytesLess x.f0.toList b.toList = v := ⟨_, rfl⟩
  have HG : Aside0 (goneE a b x = (u || (!t && !v))) := ⟨by unfold goneE sblt; rw [ht, hu, hv]⟩
  clear hW k1 k2 HBX h1 h2
  cases t <;> cases u <;> cases v
  all_goals
    simp only [Bool.not_true, Bool.not_false] at ht1
    go_enter Try.func176, Try.ntmps176
    go_wp2
    repeat (go_quiet (fail); try go_wp2)
    go_ret
    exact ⟨by rw [HG.out]; rfl, by repeat (first | exact HBA.out | apply pw_below_drewN)⟩
set_option maxHeartbeats 8000000 in
set_option maxRecDepth 100000 in
theorem impl_scan.calls (A0 : Option Addr) (c0 : Nat) (l0 : List (S51)) (a1 : ByteArray) (a2 : ByteArray) (r : List (S51)) (w : World) (hr0 : Kd.C k51 w A0 l0.length l0) (hc0 : l0.length ≤ c0) (h : impl_scan.f l0 a1 a2 = some r) :
    Calls Try.prog 105 #[.slice A0 l0.length c0, .string a1, .string a2] w fun e w' => ∃ v0_ : Value, e = .returned (v0_) ∧ Kd.R k51 51 w' w.heap.size (fun _ => True) v0_ r ∧ Below w.heap.size w w' := by
  unfold impl_scan.f at h
  by_cases h0 : l0.length ≤ 2000000
  case neg => rw [if_neg h0] at h; cases h
  rw [if_pos h0] at h
  obtain rfl := Option.some.inj h
  have hcl : impl_Entry_94.f l0 = some l0 := by
    unfold impl_Entry_94.f
    rw [if_pos (by omega)]
  have HR := Aside0.mk hr0
  have HC := Aside0.mk hc0
  have HL := Aside0.mk hcl
  have es : (w.alloc (.cells #[.string a1] 9)).heap.size = w.heap.size + 1 := by simp
  have hbw : Below w.heap.size w ((w.alloc (.cells #[.string a1] 9)).alloc (.cells #[.string a2] 9)) := below_alloc (below_alloc (Below.refl _ _) _) _
  have hk2 : ((w.alloc (.cells #[.string a1] 9)).alloc (.cells #[.string a2] 9)).cell? ⟨w.heap.size + 1, 0, none⟩ = some (.string a2) := by
    have h := blk_cell (w := ((w.alloc (.cells #[.string a1] 9)).alloc (.cells #[.string a2] 9))) (t := 9) (cs := #[.string a2]) (heap_alloc_new (w.alloc (.cells #[.string a1] 9)) (.cells #[.string a2] 9)) 0
    rw [es] at h
    exact h.trans rfl
  have hk1 : ((w.alloc (.cells #[.string a1] 9)).alloc (.cells #[.string a2] 9)).cell? ⟨w.heap.size, 0, none⟩ = some (.string a1) := (blk_cell (blk_alloc (heap_alloc_new w (.cells #[.string a1] 9)) (.cells #[.string a2] 9)) 0).trans rfl
  have HK := Aside0.mk (scan_asks w.heap.size (w.heap.size + 1) a1 a2 ((w.alloc (.cells #[.string a1] 9)).alloc (.cells #[.string a2] 9)) (by simp; omega) (by simp) hk1 hk2)
  have HW := Aside0.mk hbw
  clear hr0 hc0 hcl h h0 hk1 hk2 hbw es
  go_enter Try.func105, Try.ntmps105
  go_wp2_with (first
    | (go_at_call 94; (with_reducible refine (impl_Entry_94.calls A0 c0 l0 l0 _ (Kd.C_alloc (Kd.C_alloc HR.out _) _) HC.out HL.out).mono ?_); rintro e w2 ⟨v2, rfl, hR, hb⟩; have HR2 := Aside0.mk hR; have HB2 := Aside0.mk hb; clear hR hb)
    | (go_at_call 175; (refine (delF_Entry 176 #[.pointer (some ⟨w.heap.size, 0, none⟩), .pointer (some ⟨w.heap.size + 1, 0, none⟩)] (enters_ Try.func176 (by kernel_rfl) rfl) (goneE a1 a2) l0 ((w.alloc (.cells #[.string a1] 9)).alloc (.cells #[.string a2] 9)) _ (fun _ => True) _ HB2.out HR2.out HK.out).mono ?_); rintro e w3 ⟨v3, rfl, hR, hb, hkp⟩; have HR3 := Aside0.mk hR; have HB3 := Aside0.mk hb; clear hR hb hkp))
  go_ret
  exact ⟨_, rfl, Kd.R_lower HR3.out HW.out.size, below_then HW.out HW.out.size HB3.out⟩
end Go.Proofs.Ytcpljigliklgcaa.Q
end

section
namespace Go.Proofs.Ytcpljigliklgcaa.Q
open Go.RowKit Go.Proofs.YtcpljigliklgcaaW.PrintWords Go.Proofs.YtcpljigliklgcaaW.PrintLast Go.Proofs.YtcpljigliklgcaaW.PrintMore
attribute [local go_sem] max2_int min2_int max_two min_two max_three min_three max_four min_four   -- for this text's walks alone
set_option linter.unusedVariables false
set_option linter.unusedSimpArgs false
attribute [local go_sem] bin_leq bin_gtr bin_geq
def impl_Scan.j0 : Nat → List (S51) → ByteArray → ByteArray → Bool → Option ((List (S51)) × Int)
  | 0, _, _, _, _ => none
  | k + 1, x0, x1, x2, x8 => if x8 = true then (some (([] : List (S51)), 2)) else ((impl_MapOK.f k x0).bind fun t477 => (if t477 = true then ((impl_scan.f x0 x1 x2).bind fun t478 => (some (t478, 0))) else (some (([] : List (S51)), 1))))
def impl_Scan.f (k : Nat) (l0 : List (S51)) (a1 : ByteArray) (a2 : ByteArray) : Option ((List (S51)) × Int) := (impl_Entry_100.f l0).bind fun t474 => (if t474 = true then ((impl_isText.f a1).bind fun t475 => (if t475 = true then ((impl_isText.f a2).bind fun t476 => (impl_Scan.j0 k l0 a1 a2 (!t476))) else (impl_Scan.j0 k l0 a1 a2 true))) else (impl_Scan.j0 k l0 a1 a2 true))
set_option maxHeartbeats 8000000 in
set_option maxRecDepth 100000 in
theorem impl_Scan.calls (k : Nat) (A0 : Option Addr) (c0 : Nat) (l0 : List (S51)) (a1 : ByteArray) (a2 : ByteArray) (r1 : List (S51)) (r2 : Int) (w : World) (hr0 : Kd.C k51 w A0 l0.length l0) (hc0 : l0.length ≤ c0) (h : impl_Scan.f k l0 a1 a2 = some (r1, r2)) :
    Calls Try.prog 31 #[.slice A0 l0.length c0, .string a1, .string a2] w fun e w' => ∃ v0_ : Value, e = .returned (.tuple #[v0_, .int .i64 r2]) ∧ Kd.R k51 51 w' w.heap.size (fun _ => True) v0_ r1 ∧ Below w.heap.size w w' := by
  have HR0 := Aside0.mk hr0
  have HC0 := Aside0.mk hc0
  clear hr0 hc0
  have HB := Aside0.mk (Below.refl w.heap.size w)
  have H : ((impl_Entry_100.f l0).bind fun t474 => (if t474 = true then ((impl_isText.f a1).bind fun t475 => (if t475 = true then ((impl_isText.f a2).bind fun t476 => (impl_Scan.j0 k l0 a1 a2 (!t476))) else (impl_Scan.j0 k l0 a1 a2 true))) else (impl_Scan.j0 k l0 a1 a2 true))) = some (r1, r2) := h
  clear h
  have HC4 := Aside0.mk H
  clear H
  go_enter Try.func31, Try.ntmps31
  go_upto_region 1 with (fail)
  go_cut [8] (fun v8 wc => ∃ (kq : Nat) (x8_3 : Bool), v8 = .bool x8_3 ∧ Aside0 (impl_Scan.j0 kq l0 a1 a2 x8_3 = some (r1, r2)) ∧ Aside0 (kq ≤ k) ∧ Aside0 (Below w.heap.size w wc))
  case first =>
    have H := HC4.out
    clear HC4
    replace H := Option.bind_eq_some_iff.mp H
    obtain ⟨t474, A50, H⟩ := H
    replace H : (if t474 = true then ((impl_isText.f a1).bind fun t475 => (if t475 = true then ((impl_isText.f a2).bind fun t476 => (impl_Scan.j0 k l0 a1 a2 (!t476))) else (impl_Scan.j0 k l0 a1 a2 true))) else (impl_Scan.j0 k l0 a1 a2 true)) = some (r1, r2) := H
    have A5 := Aside0.mk A50
    clear A50
    by_cases c6 : t474 = true
    · subst c6
      have H1 : ((impl_isText.f a1).bind fun t475 => (if t475 = true then ((impl_isText.f a2).bind fun t476 => (impl_Scan.j0 k l0 a1 a2 (!t476))) else (impl_Scan.j0 k l0 a1 a2 true))) = some (r1, r2) := by rw [if_pos rfl] at H; exact H
      clear H
      have H := H1
      clear H1
      replace H := Option.bind_eq_some_iff.mp H
      obtain ⟨t475, A70, H⟩ := H
      replace H : (if t475 = true then ((impl_isText.f a2).bind fun t476 => (impl_Scan.j0 k l0 a1 a2 (!t476))) else (impl_Scan.j0 k l0 a1 a2 true)) = some (r1, r2) := H
      have A7 := Aside0.mk A70
      clear A70
      by_cases c8 : t475 = true
      · subst c8
        have H1 : ((impl_isText.f a2).bind fun t476 => (impl_Scan.j0 k l0 a1 a2 (!t476))) = some (r1, r2) := by rw [if_pos rfl] at H; exact H
        clear H
        have H := H1
        clear H1
        replace H := Option.bind_eq_some_iff.mp H
        obtain ⟨t476, A90, H⟩ := H
        replace H : (impl_Scan.j0 k l0 a1 a2 (!t476)) = some (r1, r2) := H
        have A9 := Aside0.mk A90
        clear A90
        have H' := Aside0.mk H
        clear H
        go_wp2_with (first | ((with_reducible refine gate_callee (f := 100) rfl ?_); refine goesL_ (some 10) rfl rfl Try.func100 (by kernel_rfl) rfl #[.slice A0 l0.length c0] rfl gA ?_; (with_reducible refine (impl_Entry_100.calls _ _ l0 true _ ?side1 ?side2 A5.out).mono ?_); (case side1 => exact cB HR0); (case side2 => exact HC0.out); rintro e w' ⟨rfl, ⟨nd, rfl⟩⟩; refine ⟨_, rfl, ?_⟩) | (go_at_call 104; (with_reducible refine (impl_isText.calls a1 true _ A7.out).mono ?_); rintro e w' ⟨rfl, ⟨nd, rfl⟩⟩) | (go_at_call 104; (with_reducible refine (impl_isText.calls a2 t476 _ A9.out).mono ?_); rintro e w' ⟨rfl, ⟨nd, rfl⟩⟩))
        go_meet
        case rel => exact ⟨_, (!t476), vE, H', ⟨by first | omega | exact Nat.le_refl _⟩, ⟨bW⟩⟩
      · replace c8 := Bool.eq_false_iff.mpr c8
        subst c8
        have H1 : (impl_Scan.j0 k l0 a1 a2 true) = some (r1, r2) := by rw [if_neg (show ¬ (false = true) by decide)] at H; exact H
        clear H
        have H := H1
        clear H1
        have H' := Aside0.mk H
        clear H
        go_wp2_with (first | ((with_reducible refine gate_callee (f := 100) rfl ?_); refine goesL_ (some 10) rfl rfl Try.func100 (by kernel_rfl) rfl #[.slice A0 l0.length c0] rfl gA ?_; (with_reducible refine (impl_Entry_100.calls _ _ l0 true _ ?side1 ?side2 A5.out).mono ?_); (case side1 => exact cB HR0); (case side2 => exact HC0.out); rintro e w' ⟨rfl, ⟨nd, rfl⟩⟩; refine ⟨_, rfl, ?_⟩) | (go_at_call 104; (with_reducible refine (impl_isText.calls a1 false _ A7.out).mono ?_); rintro e w' ⟨rfl, ⟨nd, rfl⟩⟩))
        go_meet
        case rel => exact ⟨_, (true), vE, H', ⟨by first | omega | exact Nat.le_refl _⟩, ⟨bW⟩⟩
    · replace c6 := Bool.eq_false_iff.mpr c6
      subst c6
      have H1 : (impl_Scan.j0 k l0 a1 a2 true) = some (r1, r2) := by rw [if_neg (show ¬ (false = true) by decide)] at H; exact H
      clear H
      have H := H1
      clear H1
      have H' := Aside0.mk H
      clear H
      go_wp2_with (first | ((with_reducible refine gate_callee (f := 100) rfl ?_); refine goesL_ (some 10) rfl rfl Try.func100 (by kernel_rfl) rfl #[.slice A0 l0.length c0] rfl gA ?_; (with_reducible refine (impl_Entry_100.calls _ _ l0 false _ ?side1 ?side2 A5.out).mono ?_); (case side1 => exact cB HR0); (case side2 => exact HC0.out); rintro e w' ⟨rfl, ⟨nd, rfl⟩⟩; refine ⟨_, rfl, ?_⟩))
      go_meet
      case rel => exact ⟨_, (true), vE, H', ⟨by first | omega | exact Nat.le_refl _⟩, ⟨bW⟩⟩
  case rest =>
    clear HC4
    try clear c1
    try clear p2
    try clear c3
    try clear c6
    try clear c8
    obtain ⟨kq, x8_3, rfl, HA, HJ3, HB⟩ := hcut
    cases kq with
    | zero => exact absurd HA.out (by simp [impl_Scan.j0])
    | succ kj3 =>
      have H := HA.out
      clear HA
      simp only [impl_Scan.j0] at H
      by_cases c10 : x8_3 = true
      · subst c10
        have H1 : (some (([] : List (S51)), 2)) = some (r1, r2) := by rw [if_pos rfl] at H; exact H
        clear H
        have H := H1
        clear H1
        simp only [Option.some.injEq, Prod.mk.injEq] at H
        obtain ⟨rfl, rfl⟩ := H
        go_wp2
        go_ret2
        exact ⟨_, by first | rfl | (simp [errW_none, errW_some] <;> rfl) | (simp [*, errW_none, errW_some] <;> rfl), by first | exact Kd.R_nil _ _ _ _ _ | exact Kd.N_nil _ _ _ _ _ | exact Kd.V_nil _ _ _ _ _ | exact Kd.Q_nil _ _ _ _ _ | exact Kd.S_nil _ _ _ _ _, bW⟩
      · replace c10 := Bool.eq_false_iff.mpr c10
        subst c10
        have H1 : ((impl_MapOK.f kj3 l0).bind fun t477 => (if t477 = true then ((impl_scan.f l0 a1 a2).bind fun t478 => (some (t478, 0))) else (some (([] : List (S51)), 1)))) = some (r1, r2) := by rw [if_neg (show ¬ (false = true) by decide)] at H; exact H
        clear H
        have H := H1
        clear H1
        replace H := Option.bind_eq_some_iff.mp H
        obtain ⟨t477, A110, H⟩ := H
        replace H : (if t477 = true then ((impl_scan.f l0 a1 a2).bind fun t478 => (some (t478, 0))) else (some (([] : List (S51)), 1))) = some (r1, r2) := H
        have A11 := Aside0.mk A110
        clear A110
        by_cases c12 : t477 = true
        · subst c12
          have H1 : ((impl_scan.f l0 a1 a2).bind fun t478 => (some (t478, 0))) = some (r1, r2) := by rw [if_pos rfl] at H; exact H
          clear H
          have H := H1
          clear H1
          replace H := Option.bind_eq_some_iff.mp H
          obtain ⟨t478, A130, H⟩ := H
          replace H : (some (t478, 0)) = some (r1, r2) := H
          have A13 := Aside0.mk A130
          clear A130
          simp only [Option.some.injEq, Prod.mk.injEq] at H
          obtain ⟨rfl, rfl⟩ := H
          go_wp2_with (first | ((with_reducible refine gate_callee (f := 37) rfl ?_); refine goesL_ (some 24) rfl rfl Try.func37 (by kernel_rfl) rfl #[.slice A0 l0.length c0] rfl gA ?_; (with_reducible refine (impl_MapOK.calls kj3 _ _ l0 true _ ?side1 ?side2 A11.out).mono ?_); (case side1 => exact cB HR0); (case side2 => exact HC0.out); rintro e w14 ⟨rfl, hb⟩; refine ⟨_, rfl, ?_⟩; have n0_ := Aside0.mk (below_step (w := w) bW hb); clear HB; have HB := n0_; clear n0_; (try clear hb); (try clear hb2); (try clear hk); (try clear hi)) | ((with_reducible refine gate_callee (f := 105) rfl ?_); refine goesL_ (some 29) rfl rfl Try.func105 (by kernel_rfl) rfl #[.slice A0 l0.length c0, .string a1, .string a2] rfl gA ?_; (with_reducible refine (impl_scan.calls _ _ l0 a1 a2 t478 _ ?side1 ?side2 A13.out).mono ?_); (case side1 => exact cB HR0); (case side2 => exact HC0.out); rintro e w15 ⟨v479, rfl, ho0, hb⟩; refine ⟨_, rfl, ?_⟩; have n0_ := Aside0.mk (Kd.R_lower ho0 (below_size (w := w) bW)); have n1_ := Aside0.mk (below_step (w := w) bW hb); clear HB; have HO480 := n0_; have HB := n1_; clear n0_ n1_; (try clear hb); (try clear hb2); (try clear hk); (try clear hi); (try clear ho0)))
          go_ret2
          exact ⟨_, by first | rfl | (simp [errW_none, errW_some] <;> rfl) | (simp [*, errW_none, errW_some] <;> rfl), by (with_reducible repeat (first | apply Kd.R_alloc | apply Kd.R_drewN | apply Kd.R_drew)); exact HO480.out, bW⟩
        · replace c12 := Bool.eq_false_iff.mpr c12
          subst c12
          have H1 : (some (([] : List (S51)), 1)) = some (r1, r2) := by rw [if_neg (show ¬ (false = true) by decide)] at H; exact H
          clear H
          have H := H1
          clear H1
          simp only [Option.some.injEq, Prod.mk.injEq] at H
          obtain ⟨rfl, rfl⟩ := H
          go_wp2_with (first | ((with_reducible refine gate_callee (f := 37) rfl ?_); refine goesL_ (some 24) rfl rfl Try.func37 (by kernel_rfl) rfl #[.slice A0 l0.length c0] rfl gA ?_; (with_reducible refine (impl_MapOK.calls kj3 _ _ l0 false _ ?side1 ?side2 A11.out).mono ?_); (case side1 => exact cB HR0); (case side2 => exact HC0.out); rintro e w16 ⟨rfl, hb⟩; refine ⟨_, rfl, ?_⟩; have n0_ := Aside0.mk (below_step (w := w) bW hb); clear HB; have HB := n0_; clear n0_; (try clear hb); (try clear hb2); (try clear hk); (try clear hi)))
          go_ret2
          exact ⟨_, by first | rfl | (simp [errW_none, errW_some] <;> rfl) | (simp [*, errW_none, errW_some] <;> rfl), by first | exact Kd.R_nil _ _ _ _ _ | exact Kd.N_nil _ _ _ _ _ | exact Kd.V_nil _ _ _ _ _ | exact Kd.Q_nil _ _ _ _ _ | exact Kd.S_nil _ _ _ _ _, bW⟩
end Go.Proofs.Ytcpljigliklgcaa.Q
end

section
namespace Go.Proofs.Ytcpljigliklgcaa.Q
open Go.RowKit Go.Proofs.YtcpljigliklgcaaW.PrintWords Go.Proofs.YtcpljigliklgcaaW.PrintLast Go.Proofs.YtcpljigliklgcaaW.PrintMore
attribute [local go_sem] max2_int min2_int max_two min_two max_three min_three max_four min_four   -- for this text's walks alone
set_option linter.unusedVariables false
set_option linter.unusedSimpArgs false
attribute [local go_sem] bin_leq bin_gtr bin_geq
mutual
def laws_FnExactScan.j0 : Nat → List (S125) → ByteArray → ByteArray → List (S51) → Int → List (S51) → List (S51) → Int → Bool → Option (Bool)
  | 0, _, _, _, _, _, _, _, _, _ => none
  | k + 1, x0, x1, x2, x8, x9, x10, x11, x12, x54 => if x54 = true then (some false) else ((laws_toEntryS.f k x0).bind fun t497 => ((laws_eqEntryS.f k x10 t497).bind fun t500 => (if t500 = true then ((laws_markEntryS.f k x10 1).bind fun bt501 => (if bt501.1 < 0 then (laws_FnExactScan.j1 k x0 x1 x2 x8 x9 x11 true) else ((laws_eqEntryS.f k x11 x8).bind fun t503 => (if t503 = true then (laws_FnExactScan.j1 k x0 x1 x2 x8 x9 x11 (x12 != x9)) else (laws_FnExactScan.j1 k x0 x1 x2 x8 x9 x11 true))))) else (some false))))
def laws_FnExactScan.j1 : Nat → List (S125) → ByteArray → ByteArray → List (S51) → Int → List (S51) → Bool → Option (Bool)
  | 0, _, _, _, _, _, _, _ => none
  | k + 1, x0, x1, x2, x8, x9, x11, x75 => if x75 = true then (some false) else ((laws_markEntryS.f k x11 1).bind fun bt504 => ((laws_heldEntryS.f k bt504.2 1).bind fun t506 => (if t506 < 0 then (some false) else (if t506 = bt504.1 then ((laws_toEntryS.f k x0).bind fun t507 => ((impl_Scan.f k t507 x1 x2).bind fun bt510 => ((laws_eqEntryS.f k bt510.1 x8).bind fun t514 => (if t514 = true then (laws_FnExactScan.j2 k bt504.2 bt504.1 (bt510.2 != x9)) else (laws_FnExactScan.j2 k bt504.2 bt504.1 true))))) else (some false)))))
def laws_FnExactScan.j2 : Nat → List (S51) → Int → Bool → Option (Bool)
  | 0, _, _, _ => none
  | k + 1, x11, x14, x103 => if x103 = true then (some false) else ((laws_heldEntryS.f k x11 1).bind fun t515 => (if t515 < 0 then (some false) else (if t515 = x14 then (some true) else (some false))))
end
def laws_FnExactScan.f (k : Nat) (l0 : List (S125)) (a1 : ByteArray) (a2 : ByteArray) : Option (Bool) := if (a1.size : Int) > 1048576 then (some true) else (if (a2.size : Int) > 1048576 then (some true) else ((laws_szEntryS.f k l0 1048576).bind fun t481 => (if t481 < 0 then (some true) else ((laws_toEntryS.f k l0).bind fun t482 => ((spec_Scan.f k t482 a1 a2).bind fun bt485 => ((laws_toEntryS.f k l0).bind fun t489 => ((impl_Scan.f k t489 a1 a2).bind fun bt492 => ((laws_eqEntryS.f k bt492.1 bt485.1).bind fun t496 => (if t496 = true then (laws_FnExactScan.j0 k l0 a1 a2 bt485.1 bt485.2 t489 bt492.1 bt492.2 (bt492.2 != bt485.2)) else (laws_FnExactScan.j0 k l0 a1 a2 bt485.1 bt485.2 t489 bt492.1 bt492.2 true))))))))))
set_option maxHeartbeats 8000000 in
set_option maxRecDepth 100000 in
theorem laws_FnExactScan.calls (k : Nat) (A0 : Option Addr) (c0 : Nat) (l0 : List (S125)) (a1 : ByteArray) (a2 : ByteArray) (w : World) (hr0 : Kd.C k125 w A0 l0.length l0) (hc0 : l0.length ≤ c0) (h : laws_FnExactScan.f k l0 a1 a2 = some true) :
    Calls Try.prog 6 #[.slice A0 l0.length c0, .string a1, .string a2] w fun e w' => e = .returned (.bool true) ∧ Below w.heap.size w w' := by
  have HR0 := Aside0.mk hr0
  have HC0 := Aside0.mk hc0
  clear hr0 hc0
  have HB := Aside0.mk (Below.refl w.heap.size w)
  have H : (if (a1.size : Int) > 1048576 then (some true) else (if (a2.size : Int) > 1048576 then (some true) else ((laws_szEntryS.f k l0 1048576).bind fun t481 => (if t481 < 0 then (some true) else ((laws_toEntryS.f k l0).bind fun t482 => ((spec_Scan.f k t482 a1 a2).bind fun bt485 => ((laws_toEntryS.f k l0).bind fun t489 => ((impl_Scan.f k t489 a1 a2).bind fun bt492 => ((laws_eqEntryS.f k bt492.1 bt485.1).bind fun t496 => (if t496 = true then (laws_FnExactScan.j0 k l0 a1 a2 bt485.1 bt485.2 t489 bt492.1 bt492.2 (bt492.2 != bt485.2)) else (laws_FnExactScan.j0 k l0 a1 a2 bt485.1 bt485.2 t489 bt492.1 bt492.2 true))))))))))) = some true := h
  clear h
  by_cases c4 : (a1.size : Int) > 1048576
  · rw [if_pos c4] at H
    have c4b0 : decide (1048576 < (a1.size : Int)) = true := decide_eq_true c4
    have c4b1 : decide (1048576 < a1.size) = true := decide_eq_true (by omega)
    clear c4
    clear H
    go_enter Try.func6, Try.ntmps6
    go_wp2
    go_ret
    exact ⟨rE, bW⟩
  · rw [if_neg c4] at H
    have c4b0 : decide (1048576 < (a1.size : Int)) = false := decide_eq_false c4
    have c4b1 : decide (1048576 < a1.size) = false := decide_eq_false (by omega)
    clear c4
    by_cases c5 : (a2.size : Int) > 1048576
    · rw [if_pos c5] at H
      have c5b0 : decide (1048576 < (a2.size : Int)) = true := decide_eq_true c5
      have c5b1 : decide (1048576 < a2.size) = true := decide_eq_true (by omega)
      clear c5
      clear H
      go_enter Try.func6, Try.ntmps6
      go_wp2
      go_ret
      exact ⟨rE, bW⟩
    · rw [if_neg c5] at H
      have c5b0 : decide (1048576 < (a2.size : Int)) = false := decide_eq_false c5
      have c5b1 : decide (1048576 < a2.size) = false := decide_eq_false (by omega)
      clear c5
      replace H := Option.bind_eq_some_iff.mp H
      obtain ⟨t481, A60, H⟩ := H
      replace H : (if t481 < 0 then (some true) else ((laws_toEntryS.f k l0).bind fun t482 => ((spec_Scan.f k t482 a1 a2).bind fun bt485 => ((laws_toEntryS.f k l0).bind fun t489 => ((impl_Scan.f k t489 a1 a2).bind fun bt492 => ((laws_eqEntryS.f k bt492.1 bt485.1).bind fun t496 => (if t496 = true then (laws_FnExactScan.j0 k l0 a1 a2 bt485.1 bt485.2 t489 bt492.1 bt492.2 (bt492.2 != bt485.2)) else (laws_FnExactScan.j0 k l0 a1 a2 bt485.1 bt485.2 t489 bt492.1 bt492.2 true)))))))) = some true := H
      have A6 := Aside0.mk A60
      clear A60
      by_cases c7 : t481 < 0
      · rw [if_pos c7] at H
        have c7b0 : decide (t481 < 0) = true := decide_eq_true c7
        clear c7
        clear H
        go_enter Try.func6, Try.ntmps6
        go_wp2_with (first | ((with_reducible refine gate_callee (f := 15) rfl ?_); refine goesL_ (some 26) rfl rfl Try.func15 (by kernel_rfl) rfl #[.slice A0 l0.length c0, .int .i64 1048576] rfl gA ?_; (with_reducible refine (laws_szEntryS.calls k _ _ l0 1048576 t481 _ ?side1 ?side2 A6.out).mono ?_); (case side1 => exact cN HR0); (case side2 => exact HC0.out); rintro e w8 ⟨rfl, hb⟩; refine ⟨_, rfl, ?_⟩; have n0_ := Aside0.mk (below_step (w := w) bW hb); clear HB; have HB := n0_; clear n0_; (try clear hb); (try clear hb2); (try clear hk); (try clear hi)))
        go_ret
        exact ⟨rE, bW⟩
      · rw [if_neg c7] at H
        have c7b0 : decide (t481 < 0) = false := decide_eq_false c7
        clear c7
        replace H := Option.bind_eq_some_iff.mp H
        obtain ⟨t482, A90, H⟩ := H
        replace H : ((spec_Scan.f k t482 a1 a2).bind fun bt485 => ((laws_toEntryS.f k l0).bind fun t489 => ((impl_Scan.f k t489 a1 a2).bind fun bt492 => ((laws_eqEntryS.f k bt492.1 bt485.1).bind fun t496 => (if t496 = true then (laws_FnExactScan.j0 k l0 a1 a2 bt485.1 bt485.2 t489 bt492.1 bt492.2 (bt492.2 != bt485.2)) else (laws_FnExactScan.j0 k l0 a1 a2 bt485.1 bt485.2 t489 bt492.1 bt492.2 true)))))) = some true := H
        have A9 := Aside0.mk A90
        clear A90
        replace H := Option.bind_eq_some_iff.mp H
        obtain ⟨⟨t485, t486⟩, A100, H⟩ := H
        replace H : ((laws_toEntryS.f k l0).bind fun t489 => ((impl_Scan.f k t489 a1 a2).bind fun bt492 => ((laws_eqEntryS.f k bt492.1 t485).bind fun t496 => (if t496 = true then (laws_FnExactScan.j0 k l0 a1 a2 t485 t486 t489 bt492.1 bt492.2 (bt492.2 != t486)) else (laws_FnExactScan.j0 k l0 a1 a2 t485 t486 t489 bt492.1 bt492.2 true))))) = some true := H
        have A10 := Aside0.mk A100
        clear A100
        replace H := Option.bind_eq_some_iff.mp H
        obtain ⟨t489, A110, H⟩ := H
        replace H : ((impl_Scan.f k t489 a1 a2).bind fun bt492 => ((laws_eqEntryS.f k bt492.1 t485).bind fun t496 => (if t496 = true then (laws_FnExactScan.j0 k l0 a1 a2 t485 t486 t489 bt492.1 bt492.2 (bt492.2 != t486)) else (laws_FnExactScan.j0 k l0 a1 a2 t485 t486 t489 bt492.1 bt492.2 true)))) = some true := H
        have A11 := Aside0.mk A110
        clear A110
        replace H := Option.bind_eq_some_iff.mp H
        obtain ⟨⟨t492, t493⟩, A120, H⟩ := H
        replace H : ((laws_eqEntryS.f k t492 t485).bind fun t496 => (if t496 = true then (laws_FnExactScan.j0 k l0 a1 a2 t485 t486 t489 t492 t493 (t493 != t486)) else (laws_FnExactScan.j0 k l0 a1 a2 t485 t486 t489 t492 t493 true))) = some true := H
        have A12 := Aside0.mk A120
        clear A120
        have HC13 := Aside0.mk H
        clear H
        go_enter Try.func6, Try.ntmps6
        go_upto_region 12 with (first | ((with_reducible refine gate_callee (f := 15) rfl ?_); refine goesL_ (some 26) rfl rfl Try.func15 (by kernel_rfl) rfl #[.slice A0 l0.length c0, .int .i64 1048576] rfl gA ?_; (with_reducible refine (laws_szEntryS.calls k _ _ l0 1048576 t481 _ ?side1 ?side2 A6.out).mono ?_); (case side1 => exact cN HR0); (case side2 => exact HC0.out); rintro e w14 ⟨rfl, hb⟩; refine ⟨_, rfl, ?_⟩; have n0_ := Aside0.mk (below_step (w := w) bW hb); clear HB; have HB := n0_; clear n0_; (try clear hb); (try clear hb2); (try clear hk); (try clear hi)) | ((with_reducible refine gate_callee (f := 17) rfl ?_); refine goesL_ (some 31) rfl rfl Try.func17 (by kernel_rfl) rfl #[.slice A0 l0.length c0] rfl gA ?_; (with_reducible refine (laws_toEntryS.calls k _ _ l0 t482 _ ?side1 ?side2 A9.out).mono ?_); (case side1 => exact cB HR0); (case side2 => exact HC0.out); rintro e w15 ⟨v483, rfl, ho0, hb⟩; refine ⟨_, rfl, ?_⟩; have n0_ := Aside0.mk (Kd.R_lower ho0 (below_size (w := w) bW)); have n1_ := Aside0.mk (below_step (w := w) bW hb); clear HB; have HO484 := n0_; have HB := n1_; clear n0_ n1_; (try clear hb); (try clear hb2); (try clear hk); (try clear hi); (try clear ho0); obtain ⟨Ao16, co16, eo16⟩ := Kd.R_slice HO484.out; subst eo16) | ((with_reducible refine gate_callee (f := 30) rfl ?_); refine goesL_ (some 34) rfl rfl Try.func30 (by kernel_rfl) rfl #[.slice Ao16 t482.length co16, .string a1, .string a2] rfl gA ?_; (with_reducible refine (spec_Scan.calls k _ _ t482 a1 a2 t485 t486 _ ?side1 ?side2 A10.out).mono ?_); (case side1 => repeat (first | exact (Kd.R_reads' HO484.out).2.2 | (with_reducible refine Kd.C_alloc ?_ _) | (with_reducible refine Kd.C_drewN ?_ _) | (with_reducible refine Kd.C_drew ?_))); (case side2 => exact (Kd.R_reads' HO484.out).2.1); rintro e w17 ⟨v487, rfl, ho0, hb⟩; refine ⟨_, rfl, ?_⟩; have n0_ := Aside0.mk (Kd.R_elder' (pR HO484) (Kd.R_base ho0) hb); have n1_ := Aside0.mk (Kd.R_lower (Kd.R_new' ho0 (Kd.R_lt (pR HO484))) (below_size (w := w) bW)); have n2_ := Aside0.mk (below_step (w := w) bW hb); clear HO484; clear HB; have HO484 := n0_; have HO488 := n1_; have HB := n2_; clear n0_ n1_ n2_; (try clear hb); (try clear hb2); (try clear hk); (try clear hi); (try clear ho0)) | ((with_reducible refine gate_callee (f := 17) rfl ?_); refine goesL_ (some 38) rfl rfl Try.func17 (by kernel_rfl) rfl #[.slice A0 l0.length c0] rfl gA ?_; (with_reducible refine (laws_toEntryS.calls k _ _ l0 t489 _ ?side1 ?side2 A11.out).mono ?_); (case side1 => exact cB HR0); (case side2 => exact HC0.out); rintro e w18 ⟨v490, rfl, ho0, hb⟩; refine ⟨_, rfl, ?_⟩; have n0_ := Aside0.mk (Kd.R_elder' (pR HO484) (Kd.R_base ho0) hb); have n1_ := Aside0.mk (Kd.R_elder' (pR HO488) (Kd.R_base ho0) hb); have n2_ := Aside0.mk (Kd.R_lower (Kd.R_new' (Kd.R_new' ho0 (Kd.R_lt (pR HO484))) (Kd.R_lt (pR HO488))) (below_size (w := w) bW)); have n3_ := Aside0.mk (below_step (w := w) bW hb); clear HO484; clear HO488; clear HB; have HO484 := n0_; have HO488 := n1_; have HO491 := n2_; have HB := n3_; clear n0_ n1_ n2_ n3_; (try clear hb); (try clear hb2); (try clear hk); (try clear hi); (try clear ho0); obtain ⟨Ao19, co19, eo19⟩ := Kd.R_slice HO491.out; subst eo19) | ((with_reducible refine gate_callee (f := 31) rfl ?_); refine goesL_ (some 43) rfl rfl Try.func31 (by kernel_rfl) rfl #[.slice Ao19 t489.length co19, .string a1, .string a2] rfl gA ?_; (with_reducible refine (impl_Scan.calls k _ _ t489 a1 a2 t492 t493 _ ?side1 ?side2 A12.out).mono ?_); (case side1 => repeat (first | exact (Kd.R_reads' HO491.out).2.2 | (with_reducible refine Kd.C_alloc ?_ _) | (with_reducible refine Kd.C_drewN ?_ _) | (with_reducible refine Kd.C_drew ?_))); (case side2 => exact (Kd.R_reads' HO491.out).2.1); rintro e w20 ⟨v494, rfl, ho0, hb⟩; refine ⟨_, rfl, ?_⟩; have n0_ := Aside0.mk (Kd.R_elder' (pR HO484) (Kd.R_base ho0) hb); have n1_ := Aside0.mk (Kd.R_elder' (pR HO488) (Kd.R_base ho0) hb); have n2_ := Aside0.mk (Kd.R_elder' (pR HO491) (Kd.R_base ho0) hb); have n3_ := Aside0.mk (Kd.R_lower (Kd.R_new' (Kd.R_new' (Kd.R_new' ho0 (Kd.R_lt (pR HO484))) (Kd.R_lt (pR HO488))) (Kd.R_lt (pR HO491))) (below_size (w := w) bW)); have n4_ := Aside0.mk (below_step (w := w) bW hb); clear HO484; clear HO488; clear HO491; clear HB; have HO484 := n0_; have HO488 := n1_; have HO491 := n2_; have HO495 := n3_; have HB := n4_; clear n0_ n1_ n2_ n3_ n4_; (try clear hb); (try clear hb2); (try clear hk); (try clear hi); (try clear ho0)))
        (try simp only [Act.put, List.setIfInBounds_toArray, List.set_cons_zero, List.set_cons_succ])
        go_cut [54] (fun v54 wc => ∃ (kq : Nat) (x54_12 : Bool), v54 = .bool x54_12 ∧ Aside0 (laws_FnExactScan.j0 kq l0 a1 a2 t485 t486 t489 t492 t493 x54_12 = some true) ∧ Aside0 (kq ≤ k) ∧ Aside0 (Kd.R k51 51 wc w.heap.size (fun k_ => some k_ ≠ ((.slice Ao19 t489.length co19) : Value).ownBlock ∧ some k_ ≠ (v494 : Value).ownBlock) v487 t485) ∧ Aside0 (Kd.R k51 51 wc w.heap.size (fun k_ => some k_ ≠ (v487 : Value).ownBlock ∧ some k_ ≠ (v494 : Value).ownBlock) (.slice Ao19 t489.length co19) t489) ∧ Aside0 (Kd.R k51 51 wc w.heap.size (fun k_ => some k_ ≠ (v487 : Value).ownBlock ∧ some k_ ≠ ((.slice Ao19 t489.length co19) : Value).ownBlock) v494 t492) ∧ Aside0 (Below w.heap.size w wc))
        case first =>
          have H := HC13.out
          clear HC13
          replace H := Option.bind_eq_some_iff.mp H
          obtain ⟨t496, A210, H⟩ := H
          replace H : (if t496 = true then (laws_FnExactScan.j0 k l0 a1 a2 t485 t486 t489 t492 t493 (t493 != t486)) else (laws_FnExactScan.j0 k l0 a1 a2 t485 t486 t489 t492 t493 true)) = some true := H
          have A21 := Aside0.mk A210
          clear A210
          by_cases c22 : t496 = true
          · subst c22
            have H1 : (laws_FnExactScan.j0 k l0 a1 a2 t485 t486 t489 t492 t493 (t493 != t486)) = some true := by rw [if_pos rfl] at H; exact H
            clear H
            have H := H1
            clear H1
            have H' := Aside0.mk H
            clear H
            obtain ⟨Ao23, co23, eo23⟩ := Kd.R_slice HO495.out
            subst eo23
            obtain ⟨Ao24, co24, eo24⟩ := Kd.R_slice HO488.out
            subst eo24
            go_wp2_with (first | ((with_reducible refine gate_callee (f := 19) rfl ?_); refine goesL_ (some 48) rfl rfl Try.func19 (by kernel_rfl) rfl #[.slice Ao23 t492.length co23, .slice Ao24 t485.length co24] rfl gA ?_; (with_reducible refine (laws_eqEntryS.calls k _ _ t492 _ _ t485 true _ ?side1 ?side2 ?side3 ?side4 A21.out).mono ?_); (case side1 => repeat (first | exact (Kd.R_reads' HO495.out).2.2 | (with_reducible refine Kd.C_alloc ?_ _) | (with_reducible refine Kd.C_drewN ?_ _) | (with_reducible refine Kd.C_drew ?_))); (case side2 => exact (Kd.R_reads' HO495.out).2.1); (case side3 => repeat (first | exact (Kd.R_reads' HO488.out).2.2 | (with_reducible refine Kd.C_alloc ?_ _) | (with_reducible refine Kd.C_drewN ?_ _) | (with_reducible refine Kd.C_drew ?_))); (case side4 => exact (Kd.R_reads' HO488.out).2.1); rintro e w25 ⟨rfl, hb⟩; refine ⟨_, rfl, ?_⟩; have n0_ := Aside0.mk (Kd.R_below (pR HO484) hb); have n1_ := Aside0.mk (Kd.R_below (pR HO488) hb); have n2_ := Aside0.mk (Kd.R_below (pR HO491) hb); have n3_ := Aside0.mk (Kd.R_below (pR HO495) hb); have n4_ := Aside0.mk (below_step (w := w) bW hb); clear HO484; clear HO488; clear HO491; clear HO495; clear HB; have HO484 := n0_; have HO488 := n1_; have HO491 := n2_; have HO495 := n3_; have HB := n4_; clear n0_ n1_ n2_ n3_ n4_; (try clear hb); (try clear hb2); (try clear hk); (try clear hi)))
            go_meet
            case rel => exact ⟨_, ((t493 != t486)), vE, H', ⟨by first | omega | exact Nat.le_refl _⟩, ⟨by (with_reducible repeat (first | apply Kd.R_alloc | apply Kd.R_drewN | apply Kd.R_drew)); exact Kd.R_mono HO488.out (fun _ hk => ⟨hk.1.2, hk.2⟩)⟩, ⟨by (with_reducible repeat (first | apply Kd.R_alloc | apply Kd.R_drewN | apply Kd.R_drew)); exact Kd.R_mono HO491.out (fun _ hk => ⟨hk.1.2, hk.2⟩)⟩, ⟨by (with_reducible repeat (first | apply Kd.R_alloc | apply Kd.R_drewN | apply Kd.R_drew)); exact Kd.R_mono HO495.out (fun _ hk => ⟨hk.1.2, hk.2⟩)⟩, ⟨bW⟩⟩
          · replace c22 := Bool.eq_false_iff.mpr c22
            subst c22
            have H1 : (laws_FnExactScan.j0 k l0 a1 a2 t485 t486 t489 t492 t493 true) = some true := by rw [if_neg (show ¬ (false = true) by decide)] at H; exact H
            clear H
            have H := H1
            clear H1
            have H' := Aside0.mk H
            clear H
            obtain ⟨Ao26, co26, eo26⟩ := Kd.R_slice HO495.out
            subst eo26
            obtain ⟨Ao27, co27, eo27⟩ := Kd.R_slice HO488.out
            subst eo27
            go_wp2_with (first | ((with_reducible refine gate_callee (f := 19) rfl ?_); refine goesL_ (some 48) rfl rfl Try.func19 (by kernel_rfl) rfl #[.slice Ao26 t492.length co26, .slice Ao27 t485.length co27] rfl gA ?_; (with_reducible refine (laws_eqEntryS.calls k _ _ t492 _ _ t485 false _ ?side1 ?side2 ?side3 ?side4 A21.out).mono ?_); (case side1 => repeat (first | exact (Kd.R_reads' HO495.out).2.2 | (with_reducible refine Kd.C_alloc ?_ _) | (with_reducible refine Kd.C_drewN ?_ _) | (with_reducible refine Kd.C_drew ?_))); (case side2 => exact (Kd.R_reads' HO495.out).2.1); (case side3 => repeat (first | exact (Kd.R_reads' HO488.out).2.2 | (with_reducible refine Kd.C_alloc ?_ _) | (with_reducible refine Kd.C_drewN ?_ _) | (with_reducible refine Kd.C_drew ?_))); (case side4 => exact (Kd.R_reads' HO488.out).2.1); rintro e w28 ⟨rfl, hb⟩; refine ⟨_, rfl, ?_⟩; have n0_ := Aside0.mk (Kd.R_below (pR HO484) hb); have n1_ := Aside0.mk (Kd.R_below (pR HO488) hb); have n2_ := Aside0.mk (Kd.R_below (pR HO491) hb); have n3_ := Aside0.mk (Kd.R_below (pR HO495) hb); have n4_ := Aside0.mk (below_step (w := w) bW hb); clear HO484; clear HO488; clear HO491; clear HO495; clear HB; have HO484 := n0_; have HO488 := n1_; have HO491 := n2_; have HO495 := n3_; have HB := n4_; clear n0_ n1_ n2_ n3_ n4_; (try clear hb); (try clear hb2); (try clear hk); (try clear hi)))
            go_meet
            case rel => exact ⟨_, (true), vE, H', ⟨by first | omega | exact Nat.le_refl _⟩, ⟨by (with_reducible repeat (first | apply Kd.R_alloc | apply Kd.R_drewN | apply Kd.R_drew)); exact Kd.R_mono HO488.out (fun _ hk => ⟨hk.1.2, hk.2⟩)⟩, ⟨by (with_reducible repeat (first | apply Kd.R_alloc | apply Kd.R_drewN | apply Kd.R_drew)); exact Kd.R_mono HO491.out (fun _ hk => ⟨hk.1.2, hk.2⟩)⟩, ⟨by (with_reducible repeat (first | apply Kd.R_alloc | apply Kd.R_drewN | apply Kd.R_drew)); exact Kd.R_mono HO495.out (fun _ hk => ⟨hk.1.2, hk.2⟩)⟩, ⟨bW⟩⟩
        case rest =>
          clear HC13
          try clear c1
          try clear c2
          try clear p2
          try clear c3
          try clear c4
          try clear c4b0
          try clear c4b1
          try clear c5
          try clear c5b0
          try clear c5b1
          try clear c6
          try clear c7
          try clear c7b0
          try clear c15
          try clear c17
          try clear c19
          try clear c22
          obtain ⟨kq, x54_12, rfl, HA, HJ12, HO_8, HO_10, HO_11, HB⟩ := hcut
          cases kq with
          | zero => exact absurd HA.out (by simp [laws_FnExactScan.j0])
          | succ kj12 =>
            have H := HA.out
            clear HA
            simp only [laws_FnExactScan.j0] at H
            by_cases c29 : x54_12 = true
            · subst c29
              have H1 : (some false) = some true := by rw [if_pos rfl] at H; exact H
              exact absurd H1 (by simp)
            · replace c29 := Bool.eq_false_iff.mpr c29
              subst c29
              have H1 : ((laws_toEntryS.f kj12 l0).bind fun t497 => ((laws_eqEntryS.f kj12 t489 t497).bind fun t500 => (if t500 = true then ((laws_markEntryS.f kj12 t489 1).bind fun bt501 => (if bt501.1 < 0 then (laws_FnExactScan.j1 kj12 l0 a1 a2 t485 t486 t492 true) else ((laws_eqEntryS.f kj12 t492 t485).bind fun t503 => (if t503 = true then (laws_FnExactScan.j1 kj12 l0 a1 a2 t485 t486 t492 (t493 != t486)) else (laws_FnExactScan.j1 kj12 l0 a1 a2 t485 t486 t492 true))))) else (some false)))) = some true := by rw [if_neg (show ¬ (false = true) by decide)] at H; exact H
              clear H
              have H := H1
              clear H1
              replace H := Option.bind_eq_some_iff.mp H
              obtain ⟨t497, A300, H⟩ := H
              replace H : ((laws_eqEntryS.f kj12 t489 t497).bind fun t500 => (if t500 = true then ((laws_markEntryS.f kj12 t489 1).bind fun bt501 => (if bt501.1 < 0 then (laws_FnExactScan.j1 kj12 l0 a1 a2 t485 t486 t492 true) else ((laws_eqEntryS.f kj12 t492 t485).bind fun t503 => (if t503 = true then (laws_FnExactScan.j1 kj12 l0 a1 a2 t485 t486 t492 (t493 != t486)) else (laws_FnExactScan.j1 kj12 l0 a1 a2 t485 t486 t492 true))))) else (some false))) = some true := H
              have A30 := Aside0.mk A300
              clear A300
              replace H := Option.bind_eq_some_iff.mp H
              obtain ⟨t500, A310, H⟩ := H
              replace H : (if t500 = true then ((laws_markEntryS.f kj12 t489 1).bind fun bt501 => (if bt501.1 < 0 then (laws_FnExactScan.j1 kj12 l0 a1 a2 t485 t486 t492 true) else ((laws_eqEntryS.f kj12 t492 t485).bind fun t503 => (if t503 = true then (laws_FnExactScan.j1 kj12 l0 a1 a2 t485 t486 t492 (t493 != t486)) else (laws_FnExactScan.j1 kj12 l0 a1 a2 t485 t486 t492 true))))) else (some false)) = some true := H
              have A31 := Aside0.mk A310
              clear A310
              by_cases c32 : t500 = true
              · subst c32
                have H1 : ((laws_markEntryS.f kj12 t489 1).bind fun bt501 => (if bt501.1 < 0 then (laws_FnExactScan.j1 kj12 l0 a1 a2 t485 t486 t492 true) else ((laws_eqEntryS.f kj12 t492 t485).bind fun t503 => (if t503 = true then (laws_FnExactScan.j1 kj12 l0 a1 a2 t485 t486 t492 (t493 != t486)) else (laws_FnExactScan.j1 kj12 l0 a1 a2 t485 t486 t492 true))))) = some true := by rw [if_pos rfl] at H; exact H
                clear H
                have H := H1
                clear H1
                replace H := Option.bind_eq_some_iff.mp H
                obtain ⟨⟨t501, t502⟩, A330, H⟩ := H
                replace H : (if t501 < 0 then (laws_FnExactScan.j1 kj12 l0 a1 a2 t485 t486 t492 true) else ((laws_eqEntryS.f kj12 t492 t485).bind fun t503 => (if t503 = true then (laws_FnExactScan.j1 kj12 l0 a1 a2 t485 t486 t492 (t493 != t486)) else (laws_FnExactScan.j1 kj12 l0 a1 a2 t485 t486 t492 true)))) = some true := H
                have A33 := Aside0.mk A330
                clear A330
                have HC34 := Aside0.mk H
                clear H
                go_upto_region 18 with (first | ((with_reducible refine gate_callee (f := 17) rfl ?_); refine goesL_ (some 57) rfl rfl Try.func17 (by kernel_rfl) rfl #[.slice A0 l0.length c0] rfl gA ?_; (with_reducible refine (laws_toEntryS.calls kj12 _ _ l0 t497 _ ?side1 ?side2 A30.out).mono ?_); (case side1 => exact cB HR0); (case side2 => exact HC0.out); rintro e w35 ⟨v498, rfl, ho0, hb⟩; refine ⟨_, rfl, ?_⟩; have n0_ := Aside0.mk (Kd.R_elder' (pR HO_8) (Kd.R_base ho0) hb); have n1_ := Aside0.mk (Kd.R_elder' (pR HO_10) (Kd.R_base ho0) hb); have n2_ := Aside0.mk (Kd.R_elder' (pR HO_11) (Kd.R_base ho0) hb); have n3_ := Aside0.mk (Kd.R_lower (Kd.R_new' (Kd.R_new' (Kd.R_new' ho0 (Kd.R_lt (pR HO_8))) (Kd.R_lt (pR HO_10))) (Kd.R_lt (pR HO_11))) (below_size (w := w) bW)); have n4_ := Aside0.mk (below_step (w := w) bW hb); clear HO_8; clear HO_10; clear HO_11; clear HB; have HO_8 := n0_; have HO_10 := n1_; have HO_11 := n2_; have HO499 := n3_; have HB := n4_; clear n0_ n1_ n2_ n3_ n4_; (try clear hb); (try clear hb2); (try clear hk); (try clear hi); (try clear ho0); obtain ⟨Ao36, co36, eo36⟩ := Kd.R_slice HO499.out; subst eo36) | ((with_reducible refine gate_callee (f := 19) rfl ?_); refine goesL_ (some 58) rfl rfl Try.func19 (by kernel_rfl) rfl #[.slice Ao19 t489.length co19, .slice Ao36 t497.length co36] rfl gA ?_; (with_reducible refine (laws_eqEntryS.calls kj12 _ _ t489 _ _ t497 true _ ?side1 ?side2 ?side3 ?side4 A31.out).mono ?_); (case side1 => repeat (first | exact (Kd.R_reads' HO_10.out).2.2 | (with_reducible refine Kd.C_alloc ?_ _) | (with_reducible refine Kd.C_drewN ?_ _) | (with_reducible refine Kd.C_drew ?_))); (case side2 => exact (Kd.R_reads' HO_10.out).2.1); (case side3 => repeat (first | exact (Kd.R_reads' HO499.out).2.2 | (with_reducible refine Kd.C_alloc ?_ _) | (with_reducible refine Kd.C_drewN ?_ _) | (with_reducible refine Kd.C_drew ?_))); (case side4 => exact (Kd.R_reads' HO499.out).2.1); rintro e w37 ⟨rfl, hb⟩; refine ⟨_, rfl, ?_⟩; have n0_ := Aside0.mk (Kd.R_below (pR HO_8) hb); have n1_ := Aside0.mk (Kd.R_below (pR HO_10) hb); have n2_ := Aside0.mk (Kd.R_below (pR HO_11) hb); have n3_ := Aside0.mk (Kd.R_below (pR HO499) hb); have n4_ := Aside0.mk (below_step (w := w) bW hb); clear HO_8; clear HO_10; clear HO_11; clear HO499; clear HB; have HO_8 := n0_; have HO_10 := n1_; have HO_11 := n2_; have HO499 := n3_; have HB := n4_; clear n0_ n1_ n2_ n3_ n4_; (try clear hb); (try clear hb2); (try clear hk); (try clear hi)) | ((with_reducible refine gate_callee (f := 20) rfl ?_); refine goesL_ (some 62) rfl rfl Try.func20 (by kernel_rfl) rfl #[.slice Ao19 t489.length co19, .int .i64 1] rfl gA ?_; (with_reducible refine (laws_markEntryS.calls kj12 (fun k_ => some k_ = (.slice Ao19 t489.length co19 : Value).ownBlock) (.slice Ao19 t489.length co19) t489 1 t501 t502 w _ ?side1 ?side2 A33.out).mono ?_); (case side1 => repeat (first | (with_reducible first | exact HB.out | apply below_alloc | apply pw_below_drewN | apply below_drew1) | exact HB.out)); (case side2 => exact Kd.R_tight rfl HO_10.out); rintro e w38 ⟨rfl, hy0, hb, hkp⟩; refine ⟨_, rfl, ?_⟩; have n0_ := Aside0.mk (Kd.R_mono (ok' := fun k_ => some k_ ≠ (.slice Ao19 t489.length co19 : Value).ownBlock ∧ some k_ ≠ (v494 : Value).ownBlock ∧ some k_ ≠ (.slice Ao36 t497.length co36 : Value).ownBlock) (Kd.R_keptB (HO_8.out) hkp (fun k_ hk_ hs_ => (hk_.1.1) hs_)) (fun k_ hk_ => ⟨hk_.1.1.1, hk_.1.1.2, hk_.1.2⟩)); have n1_ := Aside0.mk (Kd.R_reok rfl hy0 (fun k_ e_ => HO_10.out.1 k_ e_)); have n2_ := Aside0.mk (Kd.R_mono (ok' := fun k_ => some k_ ≠ (v487 : Value).ownBlock ∧ some k_ ≠ (.slice Ao19 t489.length co19 : Value).ownBlock ∧ some k_ ≠ (.slice Ao36 t497.length co36 : Value).ownBlock) (Kd.R_keptB (HO_11.out) hkp (fun k_ hk_ hs_ => (hk_.1.2) hs_)) (fun k_ hk_ => ⟨hk_.1.1.1, hk_.1.1.2, hk_.1.2⟩)); have n3_ := Aside0.mk (Kd.R_mono (ok' := fun k_ => some k_ ≠ (v487 : Value).ownBlock ∧ some k_ ≠ (.slice Ao19 t489.length co19 : Value).ownBlock ∧ some k_ ≠ (v494 : Value).ownBlock) (Kd.R_keptB (HO499.out) hkp (fun k_ hk_ hs_ => (hk_.1.2) hs_)) (fun k_ hk_ => ⟨hk_.1.1.1.2, hk_.1.1.2, hk_.1.2⟩)); have n4_ := Aside0.mk (hb); clear HO_8; clear HO_10; clear HO_11; clear HO499; clear HB; have HO_8 := n0_; have HO_10 := n1_; have HO_11 := n2_; have HO499 := n3_; have HB := n4_; clear n0_ n1_ n2_ n3_ n4_; (try clear hb); (try clear hkp); (try clear hy0)))
                (try simp only [Act.put, List.setIfInBounds_toArray, List.set_cons_zero, List.set_cons_succ])
                go_cut [75] (fun v75 wc => ∃ (kq : Nat) (x75_33 : Bool), v75 = .bool x75_33 ∧ Aside0 (laws_FnExactScan.j1 kq l0 a1 a2 t485 t486 t492 x75_33 = some true) ∧ Aside0 (kq ≤ kj12) ∧ Aside0 (Kd.R k51 51 wc w.heap.size (fun k_ => some k_ ≠ (v494 : Value).ownBlock) v487 t485) ∧ Aside0 (Kd.R k51 51 wc w.heap.size (fun k_ => some k_ ≠ (v487 : Value).ownBlock) v494 t492) ∧ Aside0 (Below w.heap.size w wc))
                case first =>
                  have H := HC34.out
                  clear HC34
                  by_cases c39 : t501 < 0
                  · rw [if_pos c39] at H
                    have c39b0 : decide (t501 < 0) = true := decide_eq_true c39
                    clear c39
                    (first | rw [c39b0] | (simp only [i64_w, i32_w]; rw [c39b0]) | skip)
                    have H' := Aside0.mk H
                    clear H
                    go_wp2
                    go_meet
                    case rel => exact ⟨_, (true), vE, H', ⟨by have := HJ12.out; first | omega | exact Nat.le_refl _⟩, ⟨by (with_reducible repeat (first | apply Kd.R_alloc | apply Kd.R_drewN | apply Kd.R_drew)); exact Kd.R_mono HO_8.out (fun _ hk => hk.2.1)⟩, ⟨by (with_reducible repeat (first | apply Kd.R_alloc | apply Kd.R_drewN | apply Kd.R_drew)); exact Kd.R_mono HO_11.out (fun _ hk => hk.1)⟩, ⟨bW⟩⟩
                  · rw [if_neg c39] at H
                    have c39b0 : decide (t501 < 0) = false := decide_eq_false c39
                    clear c39
                    (first | rw [c39b0] | (simp only [i64_w, i32_w]; rw [c39b0]) | skip)
                    replace H := Option.bind_eq_some_iff.mp H
                    obtain ⟨t503, A400, H⟩ := H
                    replace H : (if t503 = true then (laws_FnExactScan.j1 kj12 l0 a1 a2 t485 t486 t492 (t493 != t486)) else (laws_FnExactScan.j1 kj12 l0 a1 a2 t485 t486 t492 true)) = some true := H
                    have A40 := Aside0.mk A400
                    clear A400
                    by_cases c41 : t503 = true
                    · subst c41
                      have H1 : (laws_FnExactScan.j1 kj12 l0 a1 a2 t485 t486 t492 (t493 != t486)) = some true := by rw [if_pos rfl] at H; exact H
                      clear H
                      have H := H1
                      clear H1
                      have H' := Aside0.mk H
                      clear H
                      obtain ⟨Ao42, co42, eo42⟩ := Kd.R_slice HO_11.out
                      subst eo42
                      obtain ⟨Ao43, co43, eo43⟩ := Kd.R_slice HO_8.out
                      subst eo43
                      go_wp2_with (first | (go_at_call 19; (with_reducible refine (laws_eqEntryS.calls kj12 _ _ t492 _ _ t485 true _ ?side1 ?side2 ?side3 ?side4 A40.out).mono ?_); (case side1 => repeat (first | exact (Kd.R_reads' HO_11.out).2.2 | (with_reducible refine Kd.C_alloc ?_ _) | (with_reducible refine Kd.C_drewN ?_ _) | (with_reducible refine Kd.C_drew ?_))); (case side2 => exact (Kd.R_reads' HO_11.out).2.1); (case side3 => repeat (first | exact (Kd.R_reads' HO_8.out).2.2 | (with_reducible refine Kd.C_alloc ?_ _) | (with_reducible refine Kd.C_drewN ?_ _) | (with_reducible refine Kd.C_drew ?_))); (case side4 => exact (Kd.R_reads' HO_8.out).2.1); rintro e w44 ⟨rfl, hb⟩; have n0_ := Aside0.mk (Kd.R_below (pR HO_8) hb); have n1_ := Aside0.mk (Kd.R_below (pR HO_10) hb); have n2_ := Aside0.mk (Kd.R_below (pR HO_11) hb); have n3_ := Aside0.mk (Kd.R_below (pR HO499) hb); have n4_ := Aside0.mk (below_step (w := w) bW hb); clear HO_8; clear HO_10; clear HO_11; clear HO499; clear HB; have HO_8 := n0_; have HO_10 := n1_; have HO_11 := n2_; have HO499 := n3_; have HB := n4_; clear n0_ n1_ n2_ n3_ n4_; (try clear hb); (try clear hb2); (try clear hk); (try clear hi)))
                      go_meet
                      case rel => exact ⟨_, ((t493 != t486)), vE, H', ⟨by have := HJ12.out; first | omega | exact Nat.le_refl _⟩, ⟨by (with_reducible repeat (first | apply Kd.R_alloc | apply Kd.R_drewN | apply Kd.R_drew)); exact Kd.R_mono HO_8.out (fun _ hk => hk.2.1)⟩, ⟨by (with_reducible repeat (first | apply Kd.R_alloc | apply Kd.R_drewN | apply Kd.R_drew)); exact Kd.R_mono HO_11.out (fun _ hk => hk.1)⟩, ⟨bW⟩⟩
                    · replace c41 := Bool.eq_false_iff.mpr c41
                      subst c41
                      have H1 : (laws_FnExactScan.j1 kj12 l0 a1 a2 t485 t486 t492 true) = some true := by rw [if_neg (show ¬ (false = true) by decide)] at H; exact H
                      clear H
                      have H := H1
                      clear H1
                      have H' := Aside0.mk H
                      clear H
                      obtain ⟨Ao45, co45, eo45⟩ := Kd.R_slice HO_11.out
                      subst eo45
                      obtain ⟨Ao46, co46, eo46⟩ := Kd.R_slice HO_8.out
                      subst eo46
                      go_wp2_with (first | (go_at_call 19; (with_reducible refine (laws_eqEntryS.calls kj12 _ _ t492 _ _ t485 false _ ?side1 ?side2 ?side3 ?side4 A40.out).mono ?_); (case side1 => repeat (first | exact (Kd.R_reads' HO_11.out).2.2 | (with_reducible refine Kd.C_alloc ?_ _) | (with_reducible refine Kd.C_drewN ?_ _) | (with_reducible refine Kd.C_drew ?_))); (case side2 => exact (Kd.R_reads' HO_11.out).2.1); (case side3 => repeat (first | exact (Kd.R_reads' HO_8.out).2.2 | (with_reducible refine Kd.C_alloc ?_ _) | (with_reducible refine Kd.C_drewN ?_ _) | (with_reducible refine Kd.C_drew ?_))); (case side4 => exact (Kd.R_reads' HO_8.out).2.1); rintro e w47 ⟨rfl, hb⟩; have n0_ := Aside0.mk (Kd.R_below (pR HO_8) hb); have n1_ := Aside0.mk (Kd.R_below (pR HO_10) hb); have n2_ := Aside0.mk (Kd.R_below (pR HO_11) hb); have n3_ := Aside0.mk (Kd.R_below (pR HO499) hb); have n4_ := Aside0.mk (below_step (w := w) bW hb); clear HO_8; clear HO_10; clear HO_11; clear HO499; clear HB; have HO_8 := n0_; have HO_10 := n1_; have HO_11 := n2_; have HO499 := n3_; have HB := n4_; clear n0_ n1_ n2_ n3_ n4_; (try clear hb); (try clear hb2); (try clear hk); (try clear hi)))
                      go_meet
                      case rel => exact ⟨_, (true), vE, H', ⟨by have := HJ12.out; first | omega | exact Nat.le_refl _⟩, ⟨by (with_reducible repeat (first | apply Kd.R_alloc | apply Kd.R_drewN | apply Kd.R_drew)); exact Kd.R_mono HO_8.out (fun _ hk => hk.2.1)⟩, ⟨by (with_reducible repeat (first | apply Kd.R_alloc | apply Kd.R_drewN | apply Kd.R_drew)); exact Kd.R_mono HO_11.out (fun _ hk => hk.1)⟩, ⟨bW⟩⟩
                case rest =>
                  clear HC34
                  try clear c1
                  try clear c2
                  try clear p2
                  try clear c3
                  try clear c4
                  try clear c4b0
                  try clear c4b1
                  try clear c5
                  try clear c5b0
                  try clear c5b1
                  try clear c6
                  try clear c7
                  try clear c7b0
                  try clear c15
                  try clear c17
                  try clear c19
                  try clear c20
                  try clear c22
                  try clear c29
                  try clear c30
                  try clear c31
                  try clear c32
                  try clear c39
                  try clear c39b0
                  try clear c41
                  try clear p2
                  obtain ⟨kq, x75_33, rfl, HA, HJ33, HO_8, HO_11, HB⟩ := hcut
                  cases kq with
                  | zero => exact absurd HA.out (by simp [laws_FnExactScan.j1])
                  | succ kj33 =>
                    have H := HA.out
                    clear HA
                    simp only [laws_FnExactScan.j1] at H
                    by_cases c48 : x75_33 = true
                    · subst c48
                      have H1 : (some false) = some true := by rw [if_pos rfl] at H; exact H
                      exact absurd H1 (by simp)
                    · replace c48 := Bool.eq_false_iff.mpr c48
                      subst c48
                      have H1 : ((laws_markEntryS.f kj33 t492 1).bind fun bt504 => ((laws_heldEntryS.f kj33 bt504.2 1).bind fun t506 => (if t506 < 0 then (some false) else (if t506 = bt504.1 then ((laws_toEntryS.f kj33 l0).bind fun t507 => ((impl_Scan.f kj33 t507 a1 a2).bind fun bt510 => ((laws_eqEntryS.f kj33 bt510.1 t485).bind fun t514 => (if t514 = true then (laws_FnExactScan.j2 kj33 bt504.2 bt504.1 (bt510.2 != t486)) else (laws_FnExactScan.j2 kj33 bt504.2 bt504.1 true))))) else (some false))))) = some true := by rw [if_neg (show ¬ (false = true) by decide)] at H; exact H
                      clear H
                      have H := H1
                      clear H1
                      replace H := Option.bind_eq_some_iff.mp H
                      obtain ⟨⟨t504, t505⟩, A490, H⟩ := H
                      replace H : ((laws_heldEntryS.f kj33 t505 1).bind fun t506 => (if t506 < 0 then (some false) else (if t506 = t504 then ((laws_toEntryS.f kj33 l0).bind fun t507 => ((impl_Scan.f kj33 t507 a1 a2).bind fun bt510 => ((laws_eqEntryS.f kj33 bt510.1 t485).bind fun t514 => (if t514 = true then (laws_FnExactScan.j2 kj33 t505 t504 (bt510.2 != t486)) else (laws_FnExactScan.j2 kj33 t505 t504 true))))) else (some false)))) = some true := H
                      have A49 := Aside0.mk A490
                      clear A490
                      replace H := Option.bind_eq_some_iff.mp H
                      obtain ⟨t506, A500, H⟩ := H
                      replace H : (if t506 < 0 then (some false) else (if t506 = t504 then ((laws_toEntryS.f kj33 l0).bind fun t507 => ((impl_Scan.f kj33 t507 a1 a2).bind fun bt510 => ((laws_eqEntryS.f kj33 bt510.1 t485).bind fun t514 => (if t514 = true then (laws_FnExactScan.j2 kj33 t505 t504 (bt510.2 != t486)) else (laws_FnExactScan.j2 kj33 t505 t504 true))))) else (some false))) = some true := H
                      have A50 := Aside0.mk A500
                      clear A500
                      by_cases c51 : t506 < 0
                      · rw [if_pos c51] at H
                        exact absurd H (by simp)
                      · rw [if_neg c51] at H
                        have c51b0 : decide (t506 < 0) = false := decide_eq_false c51
                        clear c51
                        by_cases c55 : t506 = t504
                        · rw [if_pos c55] at H
                          have c55b0 : (t506 == t504) = true := beq_iff_eq.mpr c55
                          have c55b1 : (t506 != t504) = false := bne_eq_false_iff_eq.mpr c55
                          clear c55
                          replace H := Option.bind_eq_some_iff.mp H
                          obtain ⟨t507, A560, H⟩ := H
                          replace H : ((impl_Scan.f kj33 t507 a1 a2).bind fun bt510 => ((laws_eqEntryS.f kj33 bt510.1 t485).bind fun t514 => (if t514 = true then (laws_FnExactScan.j2 kj33 t505 t504 (bt510.2 != t486)) else (laws_FnExactScan.j2 kj33 t505 t504 true)))) = some true := H
                          have A56 := Aside0.mk A560
                          clear A560
                          replace H := Option.bind_eq_some_iff.mp H
                          obtain ⟨⟨t510, t511⟩, A570, H⟩ := H
                          replace H : ((laws_eqEntryS.f kj33 t510 t485).bind fun t514 => (if t514 = true then (laws_FnExactScan.j2 kj33 t505 t504 (t511 != t486)) else (laws_FnExactScan.j2 kj33 t505 t504 true))) = some true := H
                          have A57 := Aside0.mk A570
                          clear A570
                          have HC58 := Aside0.mk H
                          clear H
                          obtain ⟨Ao59, co59, eo59⟩ := Kd.R_slice HO_11.out
                          subst eo59
                          go_upto_region 29 with (first | ((with_reducible refine gate_callee (f := 20) rfl ?_); refine goesL_ (some 78) rfl rfl Try.func20 (by kernel_rfl) rfl #[.slice Ao59 t492.length co59, .int .i64 1] rfl gA ?_; (with_reducible refine (laws_markEntryS.calls kj33 (fun k_ => some k_ = (.slice Ao59 t492.length co59 : Value).ownBlock) (.slice Ao59 t492.length co59) t492 1 t504 t505 w _ ?side1 ?side2 A49.out).mono ?_); (case side1 => repeat (first | (with_reducible first | exact HB.out | apply below_alloc | apply pw_below_drewN | apply below_drew1) | exact HB.out)); (case side2 => exact Kd.R_tight rfl HO_11.out); rintro e w60 ⟨rfl, hy0, hb, hkp⟩; refine ⟨_, rfl, ?_⟩; have n0_ := Aside0.mk (Kd.R_mono (ok' := fun k_ => some k_ ≠ (.slice Ao59 t492.length co59 : Value).ownBlock) (Kd.R_keptB (HO_8.out) hkp (fun k_ hk_ hs_ => (hk_) hs_)) (fun k_ hk_ => hk_.1)); have n1_ := Aside0.mk (Kd.R_reok rfl hy0 (fun k_ e_ => HO_11.out.1 k_ e_)); have n2_ := Aside0.mk (hb); clear HO_8; clear HO_11; clear HB; have HO_8 := n0_; have HO_11 := n1_; have HB := n2_; clear n0_ n1_ n2_; (try clear hb); (try clear hkp); (try clear hy0)) | ((with_reducible refine gate_callee (f := 21) rfl ?_); refine goesL_ (some 81) rfl rfl Try.func21 (by kernel_rfl) rfl #[.slice Ao59 t505.length co59, .int .i64 1] rfl (by (try simp only [List.map_toArray, List.map_cons, List.map_nil]); first | done | (rw [show t505.length = t492.length from (Kd.R_reads' HO_11.out).1.symm] <;> rfl) | rfl | (simp only [List.length_drop, List.length_take]; rfl)) ?_; (with_reducible refine (laws_heldEntryS.calls kj33 _ _ t505 1 t506 _ ?side1 ?side2 A50.out).mono ?_); (case side1 => repeat (first | exact (Kd.R_reads' HO_11.out).2.2 | (with_reducible refine Kd.C_alloc ?_ _) | (with_reducible refine Kd.C_drewN ?_ _) | (with_reducible refine Kd.C_drew ?_))); (case side2 => rw [show t505.length = t492.length from (Kd.R_reads' HO_11.out).1.symm]; exact (Kd.R_reads' HO_11.out).2.1); rintro e w61 ⟨rfl, hb⟩; refine ⟨_, rfl, ?_⟩; have n0_ := Aside0.mk (Kd.R_below (pR HO_8) hb); have n1_ := Aside0.mk (Kd.R_below (pR HO_11) hb); have n2_ := Aside0.mk (below_step (w := w) bW hb); clear HO_8; clear HO_11; clear HB; have HO_8 := n0_; have HO_11 := n1_; have HB := n2_; clear n0_ n1_ n2_; (try clear hb); (try clear hb2); (try clear hk); (try clear hi)) | ((with_reducible refine gate_callee (f := 17) rfl ?_); refine goesL_ (some 89) rfl rfl Try.func17 (by kernel_rfl) rfl #[.slice A0 l0.length c0] rfl gA ?_; (with_reducible refine (laws_toEntryS.calls kj33 _ _ l0 t507 _ ?side1 ?side2 A56.out).mono ?_); (case side1 => exact cB HR0); (case side2 => exact HC0.out); rintro e w62 ⟨v508, rfl, ho0, hb⟩; refine ⟨_, rfl, ?_⟩; have n0_ := Aside0.mk (Kd.R_elder' (pR HO_8) (Kd.R_base ho0) hb); have n1_ := Aside0.mk (Kd.R_elder' (pR HO_11) (Kd.R_base ho0) hb); have n2_ := Aside0.mk (Kd.R_lower (Kd.R_new' (Kd.R_new' ho0 (Kd.R_lt (pR HO_8))) (Kd.R_lt (pR HO_11))) (below_size (w := w) bW)); have n3_ := Aside0.mk (below_step (w := w) bW hb); clear HO_8; clear HO_11; clear HB; have HO_8 := n0_; have HO_11 := n1_; have HO509 := n2_; have HB := n3_; clear n0_ n1_ n2_ n3_; (try clear hb); (try clear hb2); (try clear hk); (try clear hi); (try clear ho0); obtain ⟨Ao63, co63, eo63⟩ := Kd.R_slice HO509.out; subst eo63) | ((with_reducible refine gate_callee (f := 31) rfl ?_); refine goesL_ (some 92) rfl rfl Try.func31 (by kernel_rfl) rfl #[.slice Ao63 t507.length co63, .string a1, .string a2] rfl gA ?_; (with_reducible refine (impl_Scan.calls kj33 _ _ t507 a1 a2 t510 t511 _ ?side1 ?side2 A57.out).mono ?_); (case side1 => repeat (first | exact (Kd.R_reads' HO509.out).2.2 | (with_reducible refine Kd.C_alloc ?_ _) | (with_reducible refine Kd.C_drewN ?_ _) | (with_reducible refine Kd.C_drew ?_))); (case side2 => exact (Kd.R_reads' HO509.out).2.1); rintro e w64 ⟨v512, rfl, ho0, hb⟩; refine ⟨_, rfl, ?_⟩; have n0_ := Aside0.mk (Kd.R_elder' (pR HO_8) (Kd.R_base ho0) hb); have n1_ := Aside0.mk (Kd.R_elder' (pR HO_11) (Kd.R_base ho0) hb); have n2_ := Aside0.mk (Kd.R_elder' (pR HO509) (Kd.R_base ho0) hb); have n3_ := Aside0.mk (Kd.R_lower (Kd.R_new' (Kd.R_new' (Kd.R_new' ho0 (Kd.R_lt (pR HO_8))) (Kd.R_lt (pR HO_11))) (Kd.R_lt (pR HO509))) (below_size (w := w) bW)); have n4_ := Aside0.mk (below_step (w := w) bW hb); clear HO_8; clear HO_11; clear HO509; clear HB; have HO_8 := n0_; have HO_11 := n1_; have HO509 := n2_; have HO513 := n3_; have HB := n4_; clear n0_ n1_ n2_ n3_ n4_; (try clear hb); (try clear hb2); (try clear hk); (try clear hi); (try clear ho0)))
                          (try simp only [Act.put, List.setIfInBounds_toArray, List.set_cons_zero, List.set_cons_succ])
                          go_cut [103] (fun v103 wc => ∃ (kq : Nat) (x103_57 : Bool), v103 = .bool x103_57 ∧ Aside0 (laws_FnExactScan.j2 kq t505 t504 x103_57 = some true) ∧ Aside0 (kq ≤ kj33) ∧ Aside0 (Kd.R k51 51 wc w.heap.size (fun _ => True) (.slice Ao59 t492.length co59) t505) ∧ Aside0 (Below w.heap.size w wc))
                          case first =>
                            have H := HC58.out
                            clear HC58
                            replace H := Option.bind_eq_some_iff.mp H
                            obtain ⟨t514, A650, H⟩ := H
                            replace H : (if t514 = true then (laws_FnExactScan.j2 kj33 t505 t504 (t511 != t486)) else (laws_FnExactScan.j2 kj33 t505 t504 true)) = some true := H
                            have A65 := Aside0.mk A650
                            clear A650
                            by_cases c66 : t514 = true
                            · subst c66
                              have H1 : (laws_FnExactScan.j2 kj33 t505 t504 (t511 != t486)) = some true := by rw [if_pos rfl] at H; exact H
                              clear H
                              have H := H1
                              clear H1
                              have H' := Aside0.mk H
                              clear H
                              obtain ⟨Ao67, co67, eo67⟩ := Kd.R_slice HO513.out
                              subst eo67
                              obtain ⟨Ao68, co68, eo68⟩ := Kd.R_slice HO_8.out
                              subst eo68
                              go_wp2_with (first | ((with_reducible refine gate_callee (f := 19) rfl ?_); refine goesL_ (some 97) rfl rfl Try.func19 (by kernel_rfl) rfl #[.slice Ao67 t510.length co67, .slice Ao68 t485.length co68] rfl gA ?_; (with_reducible refine (laws_eqEntryS.calls kj33 _ _ t510 _ _ t485 true _ ?side1 ?side2 ?side3 ?side4 A65.out).mono ?_); (case side1 => repeat (first | exact (Kd.R_reads' HO513.out).2.2 | (with_reducible refine Kd.C_alloc ?_ _) | (with_reducible refine Kd.C_drewN ?_ _) | (with_reducible refine Kd.C_drew ?_))); (case side2 => exact (Kd.R_reads' HO513.out).2.1); (case side3 => repeat (first | exact (Kd.R_reads' HO_8.out).2.2 | (with_reducible refine Kd.C_alloc ?_ _) | (with_reducible refine Kd.C_drewN ?_ _) | (with_reducible refine Kd.C_drew ?_))); (case side4 => exact (Kd.R_reads' HO_8.out).2.1); rintro e w69 ⟨rfl, hb⟩; refine ⟨_, rfl, ?_⟩; have n0_ := Aside0.mk (Kd.R_below (pR HO_8) hb); have n1_ := Aside0.mk (Kd.R_below (pR HO_11) hb); have n2_ := Aside0.mk (Kd.R_below (pR HO509) hb); have n3_ := Aside0.mk (Kd.R_below (pR HO513) hb); have n4_ := Aside0.mk (below_step (w := w) bW hb); clear HO_8; clear HO_11; clear HO509; clear HO513; clear HB; have HO_8 := n0_; have HO_11 := n1_; have HO509 := n2_; have HO513 := n3_; have HB := n4_; clear n0_ n1_ n2_ n3_ n4_; (try clear hb); (try clear hb2); (try clear hk); (try clear hi)))
                              go_meet
                              case rel => exact ⟨_, ((t511 != t486)), vE, H', ⟨by have := HJ12.out; have := HJ33.out; first | omega | exact Nat.le_refl _⟩, ⟨by (with_reducible repeat (first | apply Kd.R_alloc | apply Kd.R_drewN | apply Kd.R_drew)); exact Kd.R_mono HO_11.out (fun _ hk => trivial)⟩, ⟨bW⟩⟩
                            · replace c66 := Bool.eq_false_iff.mpr c66
                              subst c66
                              have H1 : (laws_FnExactScan.j2 kj33 t505 t504 true) = some true := by rw [if_neg (show ¬ (false = true) by decide)] at H; exact H
                              clear H
                              have H := H1
                              clear H1
                              have H' := Aside0.mk H
                              clear H
                              obtain ⟨Ao70, co70, eo70⟩ := Kd.R_slice HO513.out
                              subst eo70
                              obtain ⟨Ao71, co71, eo71⟩ := Kd.R_slice HO_8.out
                              subst eo71
                              go_wp2_with (first | ((with_reducible refine gate_callee (f := 19) rfl ?_); refine goesL_ (some 97) rfl rfl Try.func19 (by kernel_rfl) rfl #[.slice Ao70 t510.length co70, .slice Ao71 t485.length co71] rfl gA ?_; (with_reducible refine (laws_eqEntryS.calls kj33 _ _ t510 _ _ t485 false _ ?side1 ?side2 ?side3 ?side4 A65.out).mono ?_); (case side1 => repeat (first | exact (Kd.R_reads' HO513.out).2.2 | (with_reducible refine Kd.C_alloc ?_ _) | (with_reducible refine Kd.C_drewN ?_ _) | (with_reducible refine Kd.C_drew ?_))); (case side2 => exact (Kd.R_reads' HO513.out).2.1); (case side3 => repeat (first | exact (Kd.R_reads' HO_8.out).2.2 | (with_reducible refine Kd.C_alloc ?_ _) | (with_reducible refine Kd.C_drewN ?_ _) | (with_reducible refine Kd.C_drew ?_))); (case side4 => exact (Kd.R_reads' HO_8.out).2.1); rintro e w72 ⟨rfl, hb⟩; refine ⟨_, rfl, ?_⟩; have n0_ := Aside0.mk (Kd.R_below (pR HO_8) hb); have n1_ := Aside0.mk (Kd.R_below (pR HO_11) hb); have n2_ := Aside0.mk (Kd.R_below (pR HO509) hb); have n3_ := Aside0.mk (Kd.R_below (pR HO513) hb); have n4_ := Aside0.mk (below_step (w := w) bW hb); clear HO_8; clear HO_11; clear HO509; clear HO513; clear HB; have HO_8 := n0_; have HO_11 := n1_; have HO509 := n2_; have HO513 := n3_; have HB := n4_; clear n0_ n1_ n2_ n3_ n4_; (try clear hb); (try clear hb2); (try clear hk); (try clear hi)))
                              go_meet
                              case rel => exact ⟨_, (true), vE, H', ⟨by have := HJ12.out; have := HJ33.out; first | omega | exact Nat.le_refl _⟩, ⟨by (with_reducible repeat (first | apply Kd.R_alloc | apply Kd.R_drewN | apply Kd.R_drew)); exact Kd.R_mono HO_11.out (fun _ hk => trivial)⟩, ⟨bW⟩⟩
                          case rest =>
                            clear HC58
                            try clear c1
                            try clear c2
                            try clear p2
                            try clear c3
                            try clear c4
                            try clear c4b0
                            try clear c4b1
                            try clear c5
                            try clear c5b0
                            try clear c5b1
                            try clear c6
                            try clear c7
                            try clear c7b0
                            try clear c15
                            try clear c17
                            try clear c19
                            try clear c20
                            try clear c21
                            try clear c22
                            try clear c29
                            try clear c30
                            try clear c31
                            try clear c32
                            try clear c39
                            try clear c39b0
                            try clear c41
                            try clear c48
                            try clear c51
                            try clear c51b0
                            try clear c55
                            try clear c55b0
                            try clear c55b1
                            try clear c66
                            try clear p2
                            obtain ⟨kq, x103_57, rfl, HA, HJ57, HO_11, HB⟩ := hcut
                            have hl11_57 := (Kd.R_reads' HO_11.out).1
                            rw [hl11_57] at HO_11
                            (try simp only [hl11_57])
                            cases kq with
                            | zero => exact absurd HA.out (by simp [laws_FnExactScan.j2])
                            | succ kj57 =>
                              have H := HA.out
                              clear HA
                              simp only [laws_FnExactScan.j2] at H
                              by_cases c73 : x103_57 = true
                              · subst c73
                                have H1 : (some false) = some true := by rw [if_pos rfl] at H; exact H
                                exact absurd H1 (by simp)
                              · replace c73 := Bool.eq_false_iff.mpr c73
                                subst c73
                                have H1 : ((laws_heldEntryS.f kj57 t505 1).bind fun t515 => (if t515 < 0 then (some false) else (if t515 = t504 then (some true) else (some false)))) = some true := by rw [if_neg (show ¬ (false = true) by decide)] at H; exact H
                                clear H
                                have H := H1
                                clear H1
                                replace H := Option.bind_eq_some_iff.mp H
                                obtain ⟨t515, A740, H⟩ := H
                                replace H : (if t515 < 0 then (some false) else (if t515 = t504 then (some true) else (some false))) = some true := H
                                have A74 := Aside0.mk A740
                                clear A740
                                by_cases c75 : t515 < 0
                                · rw [if_pos c75] at H
                                  exact absurd H (by simp)
                                · rw [if_neg c75] at H
                                  have c75b0 : decide (t515 < 0) = false := decide_eq_false c75
                                  clear c75
                                  by_cases c77 : t515 = t504
                                  · rw [if_pos c77] at H
                                    have c77b0 : (t515 == t504) = true := beq_iff_eq.mpr c77
                                    have c77b1 : (t515 != t504) = false := bne_eq_false_iff_eq.mpr c77
                                    clear c77
                                    clear H
                                    go_wp2_with (first | ((with_reducible refine gate_callee (f := 21) rfl ?_); refine goesL_ (some 106) rfl rfl Try.func21 (by kernel_rfl) rfl #[.slice Ao59 t505.length co59, .int .i64 1] rfl gA ?_; (with_reducible refine (laws_heldEntryS.calls kj57 _ _ t505 1 t515 _ ?side1 ?side2 A74.out).mono ?_); (case side1 => repeat (first | exact (Kd.R_reads' HO_11.out).2.2 | (with_reducible refine Kd.C_alloc ?_ _) | (with_reducible refine Kd.C_drewN ?_ _) | (with_reducible refine Kd.C_drew ?_))); (case side2 => exact (Kd.R_reads' HO_11.out).2.1); rintro e w78 ⟨rfl, hb⟩; refine ⟨_, rfl, ?_⟩; have n0_ := Aside0.mk (Kd.R_below (pR HO_11) hb); have n1_ := Aside0.mk (below_step (w := w) bW hb); clear HO_11; clear HB; have HO_11 := n0_; have HB := n1_; clear n0_ n1_; (try clear hb); (try clear hb2); (try clear hk); (try clear hi)))
                                    go_ret
                                    exact ⟨rE, bW⟩
                                  · rw [if_neg c77] at H
                                    exact absurd H (by simp)
                        · rw [if_neg c55] at H
                          exact absurd H (by simp)
              · replace c32 := Bool.eq_false_iff.mpr c32
                subst c32
                have H1 : (some false) = some true := by rw [if_neg (show ¬ (false = true) by decide)] at H; exact H
                exact absurd H1 (by simp)
end Go.Proofs.Ytcpljigliklgcaa.Q
end

section
namespace Go.Proofs.Ytcpljigliklgcaa.Q
open Go.RowKit Go.Proofs.YtcpljigliklgcaaW.PrintWords Go.Proofs.YtcpljigliklgcaaW.PrintLast Go.Proofs.YtcpljigliklgcaaW.PrintMore
attribute [local go_sem] max2_int min2_int max_two min_two max_three min_three max_four min_four   -- for this text's walks alone
set_option linter.unusedVariables false
set_option linter.unusedSimpArgs false
attribute [local go_sem] bin_leq bin_gtr bin_geq
def Opens {α : Type} (P : Program) (d : Kd α) (t : TypeId) (G : α → Prop) : Prop :=
  P.cellsOf t = d.sz ∧ ∀ {H : Type} (enc : TypeId × Value → H) (w : World) (base : Nat) (spare : Nat → Bool) (held : Bool) (fuel : Nat) (cs : List Value) (x : DataW H × List MemPlace),
    DataW.trod enc P w base spare held fuel t cs = some x → ∃ v, d.K w v cs ∧ G v
theorem add_twice (a : Addr) (m i : Nat) : (a.add m).add i = a.add (m + i) := by
  unfold Addr.add
  by_cases h1 : m = 0 <;> by_cases h2 : i = 0 <;> simp_all [Nat.add_assoc]
theorem opens_int {P : Program} {t : TypeId} {k : IntKind} (ht : P.underlying t = some (.int k)) (hc : P.cellsOf t = 1) : Opens P (Kd.int k) t (fun n => (Lit.int k n).wf = true) := by
  refine ⟨hc, fun enc w base spare held fuel cs x h => ?_⟩
  cases fuel with
  | zero => simp [DataW.trod] at h
  | succ n =>
    unfold DataW.trod at h
    rw [ht] at h
    split at h <;> simp_all
    obtain ⟨⟨rfl, h1⟩, _⟩ := h
    exact ⟨_, rfl, h1⟩
theorem opens_string {P : Program} {t : TypeId} (ht : P.underlying t = some .string) (hc : P.cellsOf t = 1) : Opens P Kd.string t (fun s => s.size ≤ 9223372036854775807) := by
  refine ⟨hc, fun enc w base spare held fuel cs x h => ?_⟩
  cases fuel with
  | zero => simp [DataW.trod] at h
  | succ n =>
    unfold DataW.trod at h
    rw [ht] at h
    split at h <;> simp_all
    exact ⟨_, rfl, h.1⟩
theorem list_of {α : Type} {Q : Nat → α → Prop} : ∀ n, (∀ i, i < n → ∃ v, Q i v) → ∃ l : List α, l.length = n ∧ ∀ i v, l[i]? = some v → Q i v
  | 0, _ => ⟨[], rfl, fun i v h => by simp at h⟩
  | n + 1, h => by
    obtain ⟨l, hl, hq⟩ := list_of n (fun i hi => h i (by omega))
    obtain ⟨v, hv⟩ := h n (by omega)
    refine ⟨l ++ [v], by simp [hl], fun i u hu => ?_⟩
    by_cases hi : i < l.length
    · rw [List.getElem?_append_left hi] at hu
      exact hq i u hu
    · have hi2 : i = l.length := by
        have := (List.getElem?_eq_some_iff.1 hu).1
        rw [List.length_append, List.length_singleton] at this
        omega
      subst hi2
      have hu' : v = u := by simpa using hu
      subst hu'
      rw [hl]
      exact hv
theorem opens_slice {α : Type} {P : Program} {d : Kd α} {t e : TypeId} {G : α → Prop} (ht : P.underlying t = some (.slice e)) (hc : P.cellsOf t = 1) (O : Opens P d e G) :
    Opens P (Kd.slice e d) t (fun l => l.length ≤ 9223372036854775807 ∧ ∀ x, x ∈ l → G x) := by
  refine ⟨hc, fun enc w base spare held fuel cs x h => ?_⟩
  rcases DataW.trod_slice ht h with ⟨rfl, _⟩ | ⟨a, len, cap, elems, rest, n, _, rfl, _, hb, hl, hm, hlen, hel, _, _⟩
  · exact ⟨[], ⟨none, 0, rfl, Nat.le_refl _, Kd.C_nil d w⟩, by simp, fun x hx => by simp at hx⟩
  · have each : ∀ i, i < len → ∃ v : α, (∃ c, c.length = d.sz ∧ d.K w v c ∧ ∀ j u, c[j]? = some u → w.cell? (a.add (i * d.sz + j)) = some u) ∧ G v := by
      intro i hi
      have h1 := hel i hi
      have h2 : elems[i]? = some (elems[i]'(by omega)) := List.getElem?_eq_getElem (by omega)
      rw [h2, Option.bind_eq_some_iff] at h1
      obtain ⟨c, hcc, htr⟩ := h1
      obtain ⟨v, hK, hG⟩ := O.2 enc w base spare held n c _ htr
      obtain ⟨_, hcl, hcells⟩ := World.cells?_some hcc
      refine ⟨v, ⟨c, d.K_len hK, hK, fun j u hu => ?_⟩, hG⟩
      have hj : j < c.length := (List.getElem?_eq_some_iff.1 hu).1
      have := hcells j (by omega)
      rw [hu, add_twice, O.1] at this
      exact this
    obtain ⟨l, hll, hq⟩ := list_of len each
    refine ⟨l, ⟨some a, cap, by rw [hll], by omega, hll ▸ ?_⟩, by unfold maxLen at hm; omega, fun x hx => ?_⟩
    · refine ⟨hll, by unfold maxLen at hm; omega, fun hp => ⟨a, rfl, fun j p hj => ?_⟩⟩
      obtain ⟨c, h1, h2, h3⟩ := (hq j p hj).1
      exact ⟨c, h1, h2, h3⟩
    · obtain ⟨i, hi, rfl⟩ := List.mem_iff_getElem.mp hx
      exact (hq i _ (List.getElem?_eq_getElem hi)).2
theorem open_row {α : Type} {P : Program} {d : Kd α} {t e : TypeId} {G : List α → Prop} (O : Opens P (Kd.slice e d) t G) {H : Type} {enc : TypeId × Value → H} {w : World} {base : Nat} {spare : Nat → Bool} {held : Bool} {a : Option Addr} {len cap : Nat} {x : DataW H} {ps : List MemPlace}
    (h : DataW.Trod enc P w base spare held t (.slice a len cap) x ps) : ∃ l, len = l.length ∧ l.length ≤ cap ∧ Kd.C d w a l.length l ∧ G l := by
  obtain ⟨fuel, hf⟩ := h
  obtain ⟨l, ⟨A, c, he, hl, hC⟩, hG⟩ := O.2 enc w base spare held fuel _ _ hf
  simp only [Value.cells] at he
  have he2 : Value.slice a len cap = Value.slice A l.length c := by simpa using he
  injection he2 with h1 h2 h3
  subst h1 h2 h3
  exact ⟨l, rfl, hl, hC, hG⟩
end Go.Proofs.Ytcpljigliklgcaa.Q
end

section
namespace Go.Proofs.Ytcpljigliklgcaa.Q
open Go.RowKit Go.Proofs.YtcpljigliklgcaaW.PrintWords Go.Proofs.YtcpljigliklgcaaW.PrintLast Go.Proofs.YtcpljigliklgcaaW.PrintMore
attribute [local go_sem] max2_int min2_int max_two min_two max_three min_three max_four min_four   -- for this text's walks alone
set_option linter.unusedVariables false
set_option linter.unusedSimpArgs false
attribute [local go_sem] bin_leq bin_gtr bin_geq
def good125 (x : S125) : Prop := (fun s => s.size ≤ 9223372036854775807) x.f0 ∧ (fun n => (Lit.int .i64 n).wf = true) x.f1
set_option maxRecDepth 100000 in
theorem opens_125 : Opens Try.prog k125 125 good125 := by
  refine ⟨by kernel_rfl, fun enc w base spare held fuel cs x h => ?_⟩
  obtain ⟨xs, n, _, _, hcl, hxl, hf⟩ := DataW.trod_struct Try.underlying125 h
  have hcl2 : cs.length = 2 := hcl.trans (by kernel_rfl)
  obtain ⟨c0, c1, rfl⟩ : ∃ c0 c1, cs = [c0, c1] := by
    match cs, hcl2 with
    | [c0, c1], _ => exact ⟨c0, c1, rfl⟩
  have h0 := hf 0 _ rfl
  rw [List.getElem?_eq_getElem (show 0 < xs.length by rw [hxl]; decide)] at h0
  obtain ⟨v0, K0, G0⟩ := (opens_string Try.underlying9 (by kernel_rfl)).2 enc w base spare held n [c0] _ ((show DataW.trod enc Try.prog w base spare held n 9 [c0] = _ from (by first | exact h0 | (rw [show Try.prog.cellsOf 9 = 1 by kernel_rfl] at h0; exact h0))))
  have h1 := hf 1 _ rfl
  rw [List.getElem?_eq_getElem (show 1 < xs.length by rw [hxl]; decide)] at h1
  obtain ⟨v1, K1, G1⟩ := (opens_int (k := .i64) Try.underlying3 (by kernel_rfl)).2 enc w base spare held n [c1] _ ((show DataW.trod enc Try.prog w base spare held n 3 [c1] = _ from (by first | exact h1 | (rw [show Try.prog.cellsOf 3 = 1 by kernel_rfl] at h1; exact h1))))
  exact ⟨⟨v0, v1⟩, ⟨[c0], [c1], rfl, K0, K1⟩, ⟨G0, G1⟩⟩
end Go.Proofs.Ytcpljigliklgcaa.Q
end

section
namespace Go.Proofs.Ytcpljigliklgcaa.Q
open Go.RowKit Go.Proofs.YtcpljigliklgcaaW.PrintWords Go.Proofs.YtcpljigliklgcaaW.PrintLast Go.Proofs.YtcpljigliklgcaaW.PrintMore
attribute [local go_sem] max2_int min2_int max_two min_two max_three min_three max_four min_four   -- for this text's walks alone
set_option linter.unusedVariables false
set_option linter.unusedSimpArgs false
attribute [local go_sem] bin_leq bin_gtr bin_geq
def laws_FnExactScan.Pure : Prop := ∀ (l0 : List (S125)) (a1 : ByteArray) (a2 : ByteArray), (fun l => l.length ≤ 9223372036854775807 ∧ ∀ x, x ∈ l → good125 x) l0 → a1.size ≤ 140737488351232 → a2.size ≤ 140737488351232 → ∃ k, laws_FnExactScan.f k l0 a1 a2 = some true
theorem laws_FnExactScan.walk (P : laws_FnExactScan.Pure) (A0 : Option Addr) (c0 : Nat) (l0 : List (S125)) (a1 : ByteArray) (a2 : ByteArray) (w : World) (w0 : (fun l => l.length ≤ 9223372036854775807 ∧ ∀ x, x ∈ l → good125 x) l0) (w1 : a1.size ≤ 140737488351232) (w2 : a2.size ≤ 140737488351232) (hr0 : Kd.C k125 w A0 l0.length l0) (hc0 : l0.length ≤ c0) :
    Calls Try.prog 6 #[.slice A0 l0.length c0, .string a1, .string a2] w fun e w' => e = .returned (.bool true) ∧ Below w.heap.size w w' := by
  obtain ⟨k, hk⟩ := P l0 a1 a2 w0 w1 w2
  exact (laws_FnExactScan.calls k A0 c0 l0 a1 a2 w hr0 hc0 hk).mono fun e w' h => ⟨h.1, h.2⟩
end Go.Proofs.Ytcpljigliklgcaa.Q
end

section
namespace Go.Proofs.Ytcpljigliklgcaa.Q
open Go.RowKit Go.Proofs.YtcpljigliklgcaaW.PrintWords Go.Proofs.YtcpljigliklgcaaW.PrintLast Go.Proofs.YtcpljigliklgcaaW.PrintMore
attribute [local go_sem] max2_int min2_int max_two min_two max_three min_three max_four min_four   -- for this text's walks alone
set_option linter.unusedVariables false
set_option linter.unusedSimpArgs false
attribute [local go_sem] bin_leq bin_gtr bin_geq
def RiseP (l : List S51) : Prop := l.Pairwise (fun a b => sblt a.f0 b.f0 = true)
instance (l : List S51) : Decidable (RiseP l) := by unfold RiseP; infer_instance
end Go.Proofs.Ytcpljigliklgcaa.Q
end

section
namespace Go.Proofs.Ytcpljigliklgcaa.Q
open Go.RowKit Go.Proofs.YtcpljigliklgcaaW.PrintWords Go.Proofs.YtcpljigliklgcaaW.PrintLast
theorem isValue_f (n : Int) : impl_isValue.f n = some (inB n (-1000000) 1000000) := by
  unfold impl_isValue.f impl_within.f inB
  by_cases h : (-1000000 : Int) ≤ n <;> simp [h]
theorem mapOK_l0 (l : List S51) (hlen : l.length ≤ 4611686018427387904) (d : Nat) : ∀ i : Nat, i + d = l.length → (∀ j, j < i → entAt l j = true) → Ev (fun k => impl_MapOK.l0 k l l (l.length : Int) (i : Int)) (mapB l) := by
  induction d with
  | zero =>
    intro i hi hp
    have e : mapB l = decide ((l.length : Int) ≤ 12) := by
      unfold mapB
      rw [allR_true (fun j hj => hp j (by omega)), Bool.and_true]
      by_cases h : l.length ≤ 12
      · rw [decide_eq_true h, decide_eq_true (by omega)]
      · rw [decide_eq_false h, decide_eq_false (by omega)]
    rw [e]
    exact Ev.step (f := fun _ => some (decide ((l.length : Int) ≤ 12))) (fun k => by simp only [impl_MapOK.l0]; rw [if_neg (by omega)]) (Ev.now _)
  | succ d ih =>
    intro i hi hp
    have hw : wrap64 ((i : Int) + 1) = ((i + 1 : Nat) : Int) := by unfold wrap64; omega
    have hbad : entAt l i = false → mapB l = false := fun h => by
      unfold mapB
      rw [allR_false (j := i) (by omega) h, Bool.and_false]
    have hgo : entAt l i = true → Ev (fun k => impl_MapOK.l0 k l l (l.length : Int) ((i + 1 : Nat) : Int)) (mapB l) := fun h => ih (i + 1) (by omega) (fun j hj => by
      by_cases e : j = i
      · rw [e]; exact h
      · exact hp j (by omega))
    have E : entAt l i = (nameB (rd_T51 l (i : Int)).f0 && inB (rd_T51 l (i : Int)).f1 (-1000000) 1000000 && (i == 0 || sblt (rd_T51 l ((i : Int) - 1)).f0 (rd_T51 l (i : Int)).f0)) := rfl
    have c1 : (i : Int) < (l.length : Int) := by omega
    have c2 : (0 : Int) ≤ (i : Int) := by omega
    cases hN : nameB (rd_T51 l (i : Int)).f0 with
    | false =>
      rw [hbad (by rw [E, hN]; rfl)]
      refine Ev.step (f := fun _ => some false) (fun k => ?_) (Ev.now _)
      simp only [impl_MapOK.l0, impl_NameOK.f, hN, if_pos c1, if_pos c2, Option.bind_some, Bool.false_eq_true, if_false]
    | true =>
      cases hV : inB (rd_T51 l (i : Int)).f1 (-1000000) 1000000 with
      | false =>
        rw [hbad (by rw [E, hN, hV]; rfl)]
        refine Ev.step (f := fun _ => some false) (fun k => ?_) (Ev.now _)
        simp only [impl_MapOK.l0, impl_NameOK.f, isValue_f, hN, hV, if_pos c1, if_pos c2, Option.bind_some, Bool.false_eq_true, if_false, if_true]
      | true =>
        by_cases hz : i = 0
        · have hg := hgo (by rw [E, hN, hV]; simp [hz])
          refine Ev.step (fun k => ?_) hg
          have c3 : ¬ ((i : Int) > 0) := by omega
          simp only [impl_MapOK.l0, impl_NameOK.f, isValue_f, hN, hV, if_pos c1, if_pos c2, if_neg c3, Option.bind_some, if_true, hw]
        · have c3 : (i : Int) > 0 := by omega
          have hw2 : wrap64 ((i : Int) - 1) = (i : Int) - 1 := by unfold wrap64; omega
          have c4 : (0 : Int) ≤ (i : Int) - 1 := by omega
          have c5 : (i : Int) - 1 < (l.length : Int) := by omega
          have z : (i == 0) = false := by simp [hz]
          cases hS : sblt (rd_T51 l ((i : Int) - 1)).f0 (rd_T51 l (i : Int)).f0 with
          | false =>
            rw [hbad (by rw [E, hN, hV, hS, z]; rfl)]
            have hS1 : Op.bytesLess (rd_T51 l ((i : Int) - 1)).f0.toList (rd_T51 l (i : Int)).f0.toList = false := hS
            refine Ev.step (f := fun _ => some false) (fun k => ?_) (Ev.now _)
            simp only [impl_MapOK.l0, impl_NameOK.f, isValue_f, hN, hV, hS1, hw2, if_pos c1, if_pos c2, if_pos c3, if_pos c4, if_pos c5, Option.bind_some, if_true, Bool.false_eq_true, if_false]
          | true =>
            have hg := hgo (by rw [E, hN, hV, hS]; simp)
            have hS1 : Op.bytesLess (rd_T51 l ((i : Int) - 1)).f0.toList (rd_T51 l (i : Int)).f0.toList = true := hS
            refine Ev.step (fun k => ?_) hg
            simp only [impl_MapOK.l0, impl_NameOK.f, isValue_f, hN, hV, hS1, hw2, if_pos c1, if_pos c2, if_pos c3, if_pos c4, if_pos c5, Option.bind_some, if_true, hw]
theorem mapOK_ev (l : List S51) (hlen : l.length ≤ 4611686018427387904) : Ev (fun k => impl_MapOK.f k l) (mapB l) := mapOK_l0 l hlen l.length 0 (by omega) (fun j hj => absurd hj (Nat.not_lt_zero _))
end Go.Proofs.Ytcpljigliklgcaa.Q
end

section
namespace Go.Proofs.Ytcpljigliklgcaa.Q
open Go.RowKit Go.Proofs.YtcpljigliklgcaaW.PrintWords Go.Proofs.YtcpljigliklgcaaW.PrintLast Go.Proofs.YtcpljigliklgcaaW.PrintMore
attribute [local go_sem] max2_int min2_int max_two min_two max_three min_three max_four min_four   -- for this text's walks alone
set_option linter.unusedVariables false
set_option linter.unusedSimpArgs false
attribute [local go_sem] bin_leq bin_gtr bin_geq
theorem eqA51 (d : Nat) (w : World) (x0 y0 : ByteArray) (x1 y1 : Int) :
    (Op.equalIn (d + 2) 51 (.agg #[.string x0, .int .i64 x1]) (.agg #[.string y0, .int .i64 y1])).run Try.prog w = .ok (x0.toList == y0.toList && (x1 == y1)) w := by
  refine eqA_of Try.underlying51 (by kernel_rfl) ?_
  refine eqf_cons (by rfl) (by go_simp; rfl) (by go_simp; rfl) (by go_simp) ?_
  exact eqf_last (by rfl) (by go_simp; rfl) (by go_simp; rfl) (by go_simp)
end Go.Proofs.Ytcpljigliklgcaa.Q
end

section
namespace Go.Proofs.Ytcpljigliklgcaa.Q
open Go.RowKit Go.Proofs.YtcpljigliklgcaaW.PrintWords Go.Proofs.YtcpljigliklgcaaW.PrintLast Go.Proofs.YtcpljigliklgcaaW.PrintMore
attribute [local go_sem] max2_int min2_int max_two min_two max_three min_three max_four min_four   -- for this text's walks alone
set_option linter.unusedVariables false
set_option linter.unusedSimpArgs false
attribute [local go_sem] bin_leq bin_gtr bin_geq
theorem ev_map_loop {α β : Type} {L : Nat → List α → List β → Int → Option (List β)} {g : Nat → α → Option β} {cv : α → β} {z : α}
    (step : ∀ k xs acc i, L (k + 1) xs acc i = if i < (xs.length : Int) then (if 0 ≤ i then ((g k (xs.getD i.toNat z)).bind fun y => (if i < (acc.length : Int) then (L k xs (acc.set i.toNat y) (wrap64 (i + 1))) else none)) else none) else some acc)
    (xs : List α) (hlen : xs.length ≤ 4611686018427387904) (hg : ∀ x, x ∈ xs → Ev (fun k => g k x) (cv x)) (acc : List β) (ha : acc.length = xs.length) : Ev (fun k => L k xs acc 0) (xs.map cv) := by
  have key : ∀ d (i : Nat) (acc : List β), i + d = xs.length → acc.length = xs.length → Ev (fun k => L k xs acc (i : Int)) (acc.take i ++ (xs.drop i).map cv) := by
    intro d
    induction d with
    | zero =>
      intro i acc hi ha
      refine Ev.step (f := fun _ => some acc) (fun k => by rw [step, if_neg (by omega)]) ?_
      rw [List.take_of_length_le (by omega), List.drop_eq_nil_of_le (by omega)]
      simpa using Ev.now acc
    | succ d ih =>
      intro i acc hi ha
      have hl : i < xs.length := by omega
      have hw : wrap64 ((i : Int) + 1) = ((i + 1 : Nat) : Int) := by unfold wrap64; omega
      have hx : xs.getD ((i : Int).toNat) z = xs[i] := by simp [List.getD_eq_getElem?_getD, List.getElem?_eq_getElem hl]
      refine Ev.step (f := fun k => (g k xs[i]).bind fun y => L k xs (acc.set i y) ((i + 1 : Nat) : Int)) (fun k => ?_) ?_
      · rw [step, if_pos (by omega), if_pos (by omega), hx, hw]
        congr 1
        funext y
        rw [if_pos (by omega)]
        simp
      · have h2 := ih (i + 1) (acc.set i (cv xs[i])) (by omega) (by simpa using ha)
        have e : (acc.set i (cv xs[i])).take (i + 1) ++ (xs.drop (i + 1)).map cv = acc.take i ++ (xs.drop i).map cv := by
          rw [List.drop_eq_getElem_cons hl, List.map_cons, List.take_succ_eq_append_getElem (by simpa using (show i < acc.length by omega)), List.take_set_of_le (by omega)]
          simp
        rw [e] at h2
        exact Ev.bind (hg _ (List.getElem_mem hl)) h2
  have h := key xs.length 0 acc (by omega) ha
  simpa using h
theorem ev_refl_loop {α : Type} {L : Nat → List α → List α → Int → Option Bool} {g : Nat → α → α → Option Bool} {z : α}
    (step : ∀ k xs ys i, L (k + 1) xs ys i = if i < (xs.length : Int) then (if 0 ≤ i then (if i < (ys.length : Int) then ((g k (xs.getD i.toNat z) (ys.getD i.toNat z)).bind fun t => (if t = true then L k xs ys (wrap64 (i + 1)) else some false)) else none) else none) else some true)
    (xs : List α) (hlen : xs.length ≤ 4611686018427387904) (hg : ∀ x, x ∈ xs → Ev (fun k => g k x x) true) : Ev (fun k => L k xs xs 0) true := by
  have key : ∀ d (i : Nat), i + d = xs.length → Ev (fun k => L k xs xs (i : Int)) true := by
    intro d
    induction d with
    | zero =>
      intro i hi
      exact Ev.step (f := fun _ => some true) (fun k => by rw [step, if_neg (by omega)]) (Ev.now true)
    | succ d ih =>
      intro i hi
      have hl : i < xs.length := by omega
      have hw : wrap64 ((i : Int) + 1) = ((i + 1 : Nat) : Int) := by unfold wrap64; omega
      have hx : xs.getD ((i : Int).toNat) z = xs[i] := by simp [List.getD_eq_getElem?_getD, List.getElem?_eq_getElem hl]
      refine Ev.step (f := fun k => (g k xs[i] xs[i]).bind fun t => if t = true then L k xs xs ((i + 1 : Nat) : Int) else some false) (fun k => ?_) ?_
      · rw [step, if_pos (by omega), if_pos (by omega), if_pos (by omega), hx, hw]
      · refine Ev.bind (hg _ (List.getElem_mem hl)) ?_
        simp only [if_true]
        exact ih (i + 1) (by omega)
  exact key xs.length 0 (by omega)
theorem ev_sz_loop {α : Type} {L : Nat → List α → Int → Int → Option Int} {g : Nat → α → Int → Option Int} {z : α}
    (step : ∀ k xs left i, L (k + 1) xs left i = if i < (xs.length : Int) then (if 0 ≤ i then ((g k (xs.getD i.toNat z) left).bind fun t => (if t < 0 then some (-1) else L k xs t (wrap64 (i + 1)))) else none) else some left)
    (xs : List α) (hlen : xs.length ≤ 4611686018427387904) (hg : ∀ x, x ∈ xs → ∀ left : Int, 0 ≤ left → left ≤ 1048576 → ∃ r, Ev (fun k => g k x left) r ∧ r ≤ left) (left : Int) (h0 : 0 ≤ left) (h1 : left ≤ 1048576) :
    ∃ r, Ev (fun k => L k xs left 0) r ∧ r ≤ left := by
  have key : ∀ d (i : Nat) (left : Int), i + d = xs.length → 0 ≤ left → left ≤ 1048576 → ∃ r, Ev (fun k => L k xs left (i : Int)) r ∧ r ≤ left := by
    intro d
    induction d with
    | zero =>
      intro i left hi h0 h1
      exact ⟨left, Ev.step (f := fun _ => some left) (fun k => by rw [step, if_neg (by omega)]) (Ev.now left), by omega⟩
    | succ d ih =>
      intro i left hi h0 h1
      have hl : i < xs.length := by omega
      have hw : wrap64 ((i : Int) + 1) = ((i + 1 : Nat) : Int) := by unfold wrap64; omega
      have hx : xs.getD ((i : Int).toNat) z = xs[i] := by simp [List.getD_eq_getElem?_getD, List.getElem?_eq_getElem hl]
      obtain ⟨t, ht, htl⟩ := hg _ (List.getElem_mem hl) left h0 h1
      by_cases hn : t < 0
      · refine ⟨-1, Ev.step (f := fun k => (g k xs[i] left).bind fun t => if t < 0 then some (-1) else L k xs t ((i + 1 : Nat) : Int)) (fun k => ?_) (Ev.bind ht ?_), by omega⟩
        · rw [step, if_pos (by omega), if_pos (by omega), hx, hw]
        · simp only [hn, if_true]
          exact Ev.now _
      · obtain ⟨r, hr, hrl⟩ := ih (i + 1) t (by omega) (by omega) (by omega)
        refine ⟨r, Ev.step (f := fun k => (g k xs[i] left).bind fun t => if t < 0 then some (-1) else L k xs t ((i + 1 : Nat) : Int)) (fun k => ?_) (Ev.bind ht ?_), by omega⟩
        · rw [step, if_pos (by omega), if_pos (by omega), hx, hw]
        · simp only [hn, if_false]
          exact hr
  exact key xs.length 0 left (by omega) h0 h1
end Go.Proofs.Ytcpljigliklgcaa.Q
end

section
namespace Go.Proofs.Ytcpljigliklgcaa.Q
open Go.RowKit Go.Proofs.YtcpljigliklgcaaW.PrintWords Go.Proofs.YtcpljigliklgcaaW.PrintLast
set_option linter.unusedVariables false
theorem Ev.at_ {α : Type} {g : Nat → Option α} {r : α} {c : Nat} (e : ∀ k, g (k + c) = some r) : Ev g r := by
  refine ⟨c, fun n hn => ?_⟩
  obtain ⟨m, rfl⟩ : ∃ m, n = m + c := ⟨n - c, by omega⟩
  exact e m
theorem Ev.succ {α : Type} {g : Nat → Option α} {r : α} (h : Ev (fun k => g (k + 1)) r) : Ev g r := Ev.step (fun _ => rfl) h
theorem wrap_i {i : Nat} (h : i < 4611686018427387904) : wrap64 ((i : Int) + 1) = ((i + 1 : Nat) : Int) := by unfold wrap64; omega
end Go.Proofs.Ytcpljigliklgcaa.Q
end

section
namespace Go.Proofs.Ytcpljigliklgcaa.Q
open Go.RowKit Go.Proofs.YtcpljigliklgcaaW.PrintWords Go.Proofs.YtcpljigliklgcaaW.PrintLast
set_option linter.unusedVariables false
set_option linter.unusedSimpArgs false
theorem rdEntry {l : List S51} {i : Nat} (h : i < l.length) : rd_T51 l (i : Int) = l[i] := by
  simp [rd_T51, List.getD_eq_getElem?_getD, List.getElem?_eq_getElem h]
end Go.Proofs.Ytcpljigliklgcaa.Q
end

section
namespace Go.Proofs.Ytcpljigliklgcaa.Q
open Go.RowKit Go.Proofs.YtcpljigliklgcaaW.PrintWords Go.Proofs.YtcpljigliklgcaaW.PrintLast
set_option linter.unusedVariables false
set_option linter.unusedSimpArgs false
theorem mapB_len {l : List S51} (h : mapB l = true) : l.length ≤ 12 := by
  unfold mapB at h
  simp only [Bool.and_eq_true, decide_eq_true_eq] at h
  exact h.1
end Go.Proofs.Ytcpljigliklgcaa.Q
end

section
namespace Go.Proofs.Ytcpljigliklgcaa.Q
open Go.RowKit Go.Proofs.YtcpljigliklgcaaW.PrintWords Go.Proofs.YtcpljigliklgcaaW.PrintLast
set_option linter.unusedVariables false
set_option linter.unusedSimpArgs false
theorem scan_loop (l : List S51) (a b : ByteArray) (hl : l.length ≤ 1000000) : ∀ (d i : Nat), i + d = l.length → Ev (fun k => spec_Scan.l0 k l a b (keptE (goneE a b) l i) (i : Int)) (l.filter (fun x => !goneE a b x), 0) := by
  intro d
  induction d with
  | zero =>
    intro i hi
    obtain rfl : i = l.length := by omega
    refine Ev.at_ (c := 1) (fun k => ?_)
    simp only [spec_Scan.l0]
    rw [if_neg (by omega), keptE_all]
  | succ d ih =>
    intro i hi
    have hil : i < l.length := by omega
    have c1 : (i : Int) < (l.length : Int) := by omega
    have e1 : rd_T51 l (i : Int) = l[i] := rdEntry hil
    have hn := ih (i + 1) (by omega)
    have hlt : (keptE (goneE a b) l i).length < 5864062014805 := by
      have := keptE_len (goneE a b) l i
      omega
    have w := wrap_i (show i < 4611686018427387904 by omega)
    rw [keptE_next _ l i hil] at hn
    refine Ev.succ ?_
    simp only [spec_Scan.l0, c1, if_true, Int.natCast_nonneg, e1, w]
    cases h1 : Op.bytesLess l[i].f0.toList a.toList with
    | true =>
      have hg : goneE a b l[i] = true := by unfold goneE sblt; rw [h1]; rfl
      rw [if_pos hg, List.append_nil] at hn
      simp only [if_true]
      exact hn
    | false =>
      simp only [Bool.false_eq_true, if_false]
      by_cases h2 : b.toList = ([] : List UInt8)
      · have hg : goneE a b l[i] = false := by unfold goneE sblt; rw [h1, h2]; rfl
        rw [if_neg (by rw [hg]; simp)] at hn
        simp only [h2, if_true, hlt]
        exact hn
      · have h3 : (b.toList == ([] : List UInt8)) = false := beq_eq_false_iff_ne.mpr h2
        simp only [h2, if_false]
        cases h4 : Op.bytesLess l[i].f0.toList b.toList with
        | true =>
          have hg : goneE a b l[i] = false := by unfold goneE sblt; rw [h1, h3, h4]; rfl
          rw [if_neg (by rw [hg]; simp)] at hn
          simp only [if_true, hlt]
          exact hn
        | false =>
          have hg : goneE a b l[i] = true := by unfold goneE sblt; rw [h1, h3, h4]; rfl
          rw [if_pos hg, List.append_nil] at hn
          simp only [Bool.false_eq_true, if_false]
          exact hn
theorem scan_both (l : List S51) (a b : ByteArray) (hl : l.length ≤ 1048576) : ∃ res code, Ev (fun k => spec_Scan.f k l a b) (res, code) ∧ Ev (fun k => impl_Scan.f k l a b) (res, code) ∧ res.length ≤ 1048576 := by
  by_cases hb : (l.length : Int) > 4096 ∨ (a.size : Int) > 65536 ∨ (b.size : Int) > 65536
  · refine ⟨[], 2, Ev.at_ (c := 1) (fun k => ?_), Ev.at_ (c := 1) (fun k => ?_), by simp⟩
    · unfold spec_Scan.f
      by_cases h1 : (l.length : Int) > 4096
      · simp only [h1, if_true, spec_Scan.j0]
      · by_cases h2 : (a.size : Int) > 65536
        · simp only [h1, h2, if_true, if_false, spec_Scan.j0]
        · have h3 : (b.size : Int) > 65536 := by omega
          simp only [h1, h2, h3, if_false, decide_true, spec_Scan.j0, if_true]
    · unfold impl_Scan.f impl_Entry_100.f impl_isText.f
      simp only [Option.bind_some]
      by_cases h1 : (l.length : Int) ≤ 4096
      · by_cases h2 : (a.size : Int) ≤ 65536
        · have h3 : ¬ (b.size : Int) ≤ 65536 := by omega
          simp only [h1, h2, h3, decide_true, decide_false, if_true, Bool.not_false, impl_Scan.j0]
        · simp only [h1, h2, decide_true, decide_false, if_true, Bool.false_eq_true, if_false, impl_Scan.j0]
      · simp only [h1, decide_false, Bool.false_eq_true, if_false, impl_Scan.j0, if_true]
  have g1 : ¬ (l.length : Int) > 4096 := by omega
  have g2 : ¬ (a.size : Int) > 65536 := by omega
  have g3 : ¬ (b.size : Int) > 65536 := by omega
  have f1 : (l.length : Int) ≤ 4096 := by omega
  have f2 : (a.size : Int) ≤ 65536 := by omega
  have f3 : (b.size : Int) ≤ 65536 := by omega
  have hS : ∀ r, Ev (fun k => spec_Scan.j0 k l a b false) r → Ev (fun k => spec_Scan.f k l a b) r := fun r h => Ev.congr (fun k => by unfold spec_Scan.f; simp only [g1, g2, g3, if_false, decide_false]) h
  have hI : ∀ r, Ev (fun k => impl_Scan.j0 k l a b false) r → Ev (fun k => impl_Scan.f k l a b) r := fun r h => Ev.congr (fun k => by unfold impl_Scan.f impl_Entry_100.f impl_isText.f; simp only [Option.bind_some, f1, f2, f3, decide_true, if_true, Bool.not_true]) h
  cases hm : mapB l with
  | false =>
    refine ⟨[], 1, hS _ (Ev.succ ?_), hI _ (Ev.succ ?_), by simp⟩
    · simp only [spec_Scan.j0, Bool.false_eq_true, if_false, spec_l01OK.f, Option.bind_some, hm]
      exact Ev.now _
    · simp only [impl_Scan.j0, Bool.false_eq_true, if_false]
      refine Ev.bind (mapOK_ev l (by omega)) ?_
      simp only [hm, Bool.false_eq_true, if_false]
      exact Ev.now _
  | true =>
    have h12 := mapB_len hm
    have hlo := scan_loop l a b (by omega) l.length 0 (by omega)
    have e0 : keptE (goneE a b) l 0 = [] := rfl
    rw [e0] at hlo
    have hfl : (l.filter (fun x => !goneE a b x)).length ≤ l.length := List.length_filter_le _ _
    refine ⟨l.filter (fun x => !goneE a b x), 0, hS _ (Ev.succ ?_), hI _ (Ev.succ ?_), by omega⟩
    · simp only [spec_Scan.j0, Bool.false_eq_true, if_false, spec_l01OK.f, Option.bind_some, hm, if_true]
      exact hlo
    · simp only [impl_Scan.j0, Bool.false_eq_true, if_false]
      refine Ev.bind (mapOK_ev l (by omega)) ?_
      simp only [hm, if_true, impl_scan.f, (show l.length ≤ 2000000 by omega), Option.bind_some]
      exact Ev.now _
end Go.Proofs.Ytcpljigliklgcaa.Q
end

section
namespace Go.Proofs.Ytcpljigliklgcaa.Q
open Go.RowKit Go.Proofs.YtcpljigliklgcaaW.PrintWords Go.Proofs.YtcpljigliklgcaaW.PrintLast
set_option linter.unusedVariables false
def cvEntry (x : S125) : S51 := ⟨x.f0, x.f1⟩
theorem toEntryS_ev (l : List S125) (h : l.length ≤ 1048576) : Ev (fun k => laws_toEntryS.f k l) (l.map cvEntry) := by
  refine Ev.congr (f := fun k => laws_toEntryS.l0 k l (List.replicate l.length z51) 0) (fun k => ?_) ?_
  · unfold laws_toEntryS.f
    rw [if_pos (by omega), if_pos (by omega)]
    rfl
  · exact ev_map_loop (L := laws_toEntryS.l0) (g := fun _ x => some (cvEntry x)) (z := z125) (fun _ _ _ _ => rfl) l (by omega) (fun x _ => Ev.now _) _ (by simp)
theorem eqEntry_refl (x : S51) : laws_eqEntry.f x.f0 x.f1 x.f0 x.f1 = some true := by
  unfold laws_eqEntry.f
  simp
theorem eqEntryS_ev (l : List S51) (h : l.length ≤ 1048576) : Ev (fun k => laws_eqEntryS.f k l l) true := by
  refine Ev.congr (f := fun k => laws_eqEntryS.l0 k l l 0) (fun k => ?_) ?_
  · unfold laws_eqEntryS.f
    rw [if_pos rfl]
  · exact ev_refl_loop (L := laws_eqEntryS.l0) (g := fun _ x y => laws_eqEntry.f x.f0 x.f1 y.f0 y.f1) (z := z51) (fun _ _ _ _ => rfl) l (by omega) (fun x _ => Ev.congr (fun _ => eqEntry_refl x) (Ev.now _))
theorem szEntryS_ev (l : List S125) (hl : l.length ≤ 9223372036854775807) (hg : ∀ x, x ∈ l → good125 x) (left : Int) (h0 : 0 ≤ left) (h1 : left ≤ 1048576) :
    ∃ r, Ev (fun k => laws_szEntryS.f k l left) r ∧ r ≤ left ∧ (0 ≤ r → l.length ≤ 1048576) := by
  have hw : wrap64 (left - (l.length : Int)) = left - (l.length : Int) := by unfold wrap64; omega
  by_cases hn : left - (l.length : Int) < 0
  · refine ⟨-1, Ev.congr (f := fun _ => some (-1)) (fun k => ?_) (Ev.now _), by omega, by omega⟩
    unfold laws_szEntryS.f
    rw [hw, if_pos hn]
  · obtain ⟨r, hr, hrl⟩ := ev_sz_loop (L := laws_szEntryS.l0) (g := fun _ x left => laws_szEntry.f x.f0 x.f1 left) (z := z125) (fun _ _ _ _ => rfl) l (by omega) (fun x hx left h0 h1 => by
      have hsz : x.f0.size ≤ 9223372036854775807 := (hg x hx).1
      have hw2 : wrap64 (left - (x.f0.size : Int)) = left - (x.f0.size : Int) := by unfold wrap64; omega
      by_cases h2 : left - (x.f0.size : Int) < 0
      · refine ⟨-1, Ev.congr (f := fun _ => some (-1)) (fun k => ?_) (Ev.now _), by omega⟩
        unfold laws_szEntry.f
        rw [hw2, if_pos h2]
      · refine ⟨left - (x.f0.size : Int), Ev.congr (f := fun _ => some (left - (x.f0.size : Int))) (fun k => ?_) (Ev.now _), by omega⟩
        unfold laws_szEntry.f
        rw [hw2, if_neg h2]) (left - (l.length : Int)) (by omega) (by omega)
    refine ⟨r, Ev.congr (f := fun k => laws_szEntryS.l0 k l (left - (l.length : Int)) 0) (fun k => ?_) hr, by omega, by omega⟩
    unfold laws_szEntryS.f
    rw [hw, if_neg hn]
end Go.Proofs.Ytcpljigliklgcaa.Q
end

section
namespace Go.Proofs.Ytcpljigliklgcaa.Q
open Go.RowKit Go.Proofs.YtcpljigliklgcaaW.PrintWords Go.Proofs.YtcpljigliklgcaaW.PrintLast
set_option linter.unusedVariables false
set_option linter.unusedSimpArgs false
theorem markText_l0 : ∀ (d : Nat) (n : Int) (s : ByteArray), 0 ≤ n → n ≤ 9223372036854775807 → n < 10 ^ d → s.size + d ≤ 1000 → ∃ r, Ev (fun k => laws_markText.l0 k n s) r := by
  intro d
  induction d with
  | zero =>
    intro n s h0 hn9 h1 hs
    have hn : ¬ n > 0 := by simp at h1; omega
    have hz : 1 + s.size ≤ 9223372036854775807 := by omega
    exact ⟨_, Ev.at_ (c := 1) (fun k => by simp only [laws_markText.l0, hn, if_false, hz, if_true]; rfl)⟩
  | succ d ih =>
    intro n s h0 hn9 h1 hs
    by_cases hn : n > 0
    · have e1 : Int.tdiv n 10 = n / 10 := Int.tdiv_eq_ediv_of_nonneg h0
      have h2 : n / 10 < 10 ^ d := by
        rw [Int.pow_succ] at h1
        omega
      have hw : wrap64 (n / 10) = n / 10 := by unfold wrap64; omega
      have hz : (strOfNums [(wrap64 (48 + (Int.tmod n 10))) % 256]).size = 1 := rfl
      have hz2 : 1 + s.size ≤ 9223372036854775807 := by omega
      obtain ⟨r, hr⟩ := ih (n / 10) (strOfNums [(wrap64 (48 + (Int.tmod n 10))) % 256] ++ s) (by omega) (by omega) h2 (by rw [ByteArray.size_append, hz]; omega)
      refine ⟨r, Ev.step (fun k => ?_) hr⟩
      simp only [laws_markText.l0, hn, if_true, Option.bind_some, hz, hz2, e1, hw]
    · have hz : 1 + s.size ≤ 9223372036854775807 := by omega
      exact ⟨_, Ev.at_ (c := 1) (fun k => by simp only [laws_markText.l0, hn, if_false, hz, if_true]; rfl)⟩
theorem markTexts : ∃ mt : Int → ByteArray, ∀ n, 0 ≤ n → n ≤ 1000000000 → Ev (fun k => laws_markText.f k n) (mt n) := by
  have h : ∀ n : Int, ∃ s, 0 ≤ n → n ≤ 1000000000 → Ev (fun k => laws_markText.f k n) s := by
    intro n
    by_cases h0 : 0 ≤ n ∧ n ≤ 1000000000
    · by_cases h1 : n ≤ 0
      · exact ⟨_, fun _ _ => Ev.at_ (c := 0) (fun k => by unfold laws_markText.f; rw [if_pos h1])⟩
      · obtain ⟨s, hs⟩ := markText_l0 10 n (⟨#[]⟩ : ByteArray) h0.1 (by omega) (by omega) (by decide)
        exact ⟨s, fun _ _ => Ev.congr (fun k => by unfold laws_markText.f; rw [if_neg h1]) hs⟩
    · exact ⟨ByteArray.empty, fun a b => absurd ⟨a, b⟩ h0⟩
  exact ⟨fun n => Classical.choose (h n), fun n => Classical.choose_spec (h n)⟩
theorem ev_mark_loop {α : Type} {L : Nat → List α → Int → Int → Option (Int × List α)} {H : Nat → List α → Int → Int → Option Int} {mk : α → Int → α} {c : Int} (hc : 0 ≤ c)
    (stepL : ∀ (l : List α) (m : Int) (i : Nat) (hi : i < l.length), l.length ≤ 1048576 → 0 ≤ m → m ≤ 900000000 → ∀ r, Ev (fun k => L k (l.set i (mk l[i] m)) (m + c) ((i + 1 : Nat) : Int)) r → Ev (fun k => L k l m (i : Int)) r)
    (stepH : ∀ (l : List α) (m : Int) (i : Nat) (hi : i < l.length) (y : α), l[i] = mk y m → l.length ≤ 1048576 → 0 ≤ m → m ≤ 900000000 → ∀ r, Ev (fun k => H k l (m + c) ((i + 1 : Nat) : Int)) r → Ev (fun k => H k l m (i : Int)) r)
    (doneL : ∀ (l : List α) (m : Int) k, L (k + 1) l m (l.length : Int) = some (m, l)) (doneH : ∀ (l : List α) (m : Int) k, H (k + 1) l m (l.length : Int) = some m)
    (l : List α) (m : Int) (hl : l.length ≤ 1048576) (h0 : 0 ≤ m) (hm : m + c * l.length ≤ 900000000) :
    ∃ l', l'.length = l.length ∧ Ev (fun k => L k l m 0) (m + c * l.length, l') ∧ Ev (fun k => H k l' m 0) (m + c * l.length) := by
  have key : ∀ (d i : Nat) (l : List α) (m : Int), i + d = l.length → l.length ≤ 1048576 → 0 ≤ m → m + c * d ≤ 900000000 →
      ∃ l', l'.length = l.length ∧ l'.take i = l.take i ∧ Ev (fun k => L k l m (i : Int)) (m + c * d, l') ∧ Ev (fun k => H k l' m (i : Int)) (m + c * d) := by
    intro d
    induction d with
    | zero =>
      intro i l m hi hl h0 hm
      obtain rfl : i = l.length := by omega
      refine ⟨l, rfl, rfl, ?_, ?_⟩
      · simp only [Int.natCast_zero, Int.mul_zero, Int.add_zero]
        exact Ev.at_ (c := 1) (doneL l m)
      · simp only [Int.natCast_zero, Int.mul_zero, Int.add_zero]
        exact Ev.at_ (c := 1) (doneH l m)
    | succ d ih =>
      intro i l m hi hl h0 hm
      have hil : i < l.length := by omega
      have e : m + c + c * (d : Int) = m + c * ((d + 1 : Nat) : Int) := by
        rw [Int.natCast_add, Int.natCast_one, Int.mul_add, Int.mul_one]
        omega
      have hcd : 0 ≤ c * (d : Int) := Int.mul_nonneg hc (Int.natCast_nonneg d)
      obtain ⟨l', hl', ht, hL, hH⟩ := ih (i + 1) (l.set i (mk l[i] m)) (m + c) (by rw [List.length_set]; omega) (by rw [List.length_set]; omega) (by omega) (by omega)
      rw [List.length_set] at hl'
      rw [e] at hL hH
      have hg : l'[i]'(by omega) = mk l[i] m := by
        have h1 : (l'.take (i + 1))[i]'(by rw [List.length_take]; omega) = ((l.set i (mk l[i] m)).take (i + 1))[i]'(by rw [List.length_take, List.length_set]; omega) := by simp only [ht]
        simpa using h1
      refine ⟨l', hl', ?_, stepL l m i hil hl h0 (by omega) _ hL, stepH l' m i (by omega) l[i] hg (by omega) h0 (by omega) _ hH⟩
      have h2 := congrArg (List.take i) ht
      rw [List.take_take, List.take_take, Nat.min_eq_left (by omega)] at h2
      rw [h2, List.take_set_of_le (Nat.le_refl _)]
  obtain ⟨l', h1, _, h3, h4⟩ := key l.length 0 l m (by omega) hl h0 hm
  exact ⟨l', h1, h3, h4⟩
end Go.Proofs.Ytcpljigliklgcaa.Q
end

section
namespace Go.Proofs.Ytcpljigliklgcaa.Q
open Go.RowKit Go.Proofs.YtcpljigliklgcaaW.PrintWords Go.Proofs.YtcpljigliklgcaaW.PrintLast
set_option linter.unusedVariables false
set_option linter.unusedSimpArgs false
theorem markEntryS_ev (l : List S51) (m : Int) (hl : l.length ≤ 1048576) (h0 : 0 ≤ m) (hm : m + 2 * l.length ≤ 900000000) :
    ∃ l', l'.length = l.length ∧ Ev (fun k => laws_markEntryS.f k l m) (m + 2 * l.length, l') ∧ Ev (fun k => laws_heldEntryS.f k l' m) (m + 2 * l.length) := by
  obtain ⟨mt, hmt⟩ := markTexts
  have rd0 : ∀ (l : List S51) (i : Nat) (h : i < l.length), rd_T51 l (i : Int) = l[i] := fun l i h => by simp [rd_T51, List.getD_eq_getElem?_getD, List.getElem?_eq_getElem h]
  have rd1 : ∀ (l : List S51) (i : Nat) (v : S51) (h : i < l.length), rd_T51 (l.set i v) (i : Int) = v := fun l i v h => by rw [rd0 _ _ (by rw [List.length_set]; exact h)]; simp
  refine ev_mark_loop (L := laws_markEntryS.l0) (H := laws_heldEntryS.l0) (mk := fun x m => ⟨mt (m), m + 1⟩) (c := 2) (by omega) ?_ ?_ ?_ ?_ l m hl h0 hm
  · intro l m i hi hl h0 hm r hr
    have c1 : (i : Int) < (l.length : Int) := by omega
    have w := wrap_i (show i < 4611686018427387904 by omega)
    have w1 : wrap64 (m + 1) = m + 1 := by unfold wrap64; omega
    have w2 : wrap64 (m + 1 + 1) = m + 2 := by unfold wrap64; omega
    refine Ev.succ (g := fun k => laws_markEntryS.l0 k l m (i : Int)) ?_
    simp only [laws_markEntryS.l0, c1, if_true, Int.natCast_nonneg, Option.bind_some, Int.toNat_natCast, rd0 l i hi, rd1 l i _ hi, List.set_set, w, w1, w2]
    refine Ev.bind (hmt (m) (by omega) (by omega)) ?_
    (try simp only [if_true, rd0 l i hi, rd1 l i _ hi, List.set_set, Option.bind_some, w1, w2, bne_self_eq_false, Bool.false_eq_true, if_false])
    exact hr
  · intro l m i hi y hy hl h0 hm r hr
    have c1 : (i : Int) < (l.length : Int) := by omega
    have w := wrap_i (show i < 4611686018427387904 by omega)
    have w1 : wrap64 (m + 1) = m + 1 := by unfold wrap64; omega
    have w2 : wrap64 (m + 1 + 1) = m + 2 := by unfold wrap64; omega
    refine Ev.succ (g := fun k => laws_heldEntryS.l0 k l m (i : Int)) ?_
    simp only [laws_heldEntryS.l0, c1, if_true, Int.natCast_nonneg, rd0 l i hi, hy, w, w1, w2, bne_self_eq_false, Bool.false_eq_true, if_false]
    refine Ev.bind (hmt (m) (by omega) (by omega)) ?_
    (try simp only [if_true, rd0 l i hi, rd1 l i _ hi, List.set_set, Option.bind_some, w1, w2, bne_self_eq_false, Bool.false_eq_true, if_false])
    exact hr
  · intro l m k
    simp only [laws_markEntryS.l0]
    rw [if_neg (by omega)]
  · intro l m k
    simp only [laws_heldEntryS.l0]
    rw [if_neg (by omega)]
end Go.Proofs.Ytcpljigliklgcaa.Q
end

section
namespace Go.Proofs.Ytcpljigliklgcaa.Pure
open Go.RowKit Go.Proofs.Ytcpljigliklgcaa.Q Go.Proofs.YtcpljigliklgcaaW.PrintWords Go.Proofs.YtcpljigliklgcaaW.PrintLast
set_option linter.unusedVariables false
set_option linter.unusedSimpArgs false
theorem FnExactScan : laws_FnExactScan.Pure := by
  intro l0 a1 a2 w0 w1 w2
  refine Ev.rounds ?_
  unfold laws_FnExactScan.f
  by_cases hn1 : (a1.size : Int) > 1048576
  · simp only [hn1, if_true]
    exact Ev.now _
  simp only [hn1, if_false]
  by_cases hn3 : (a2.size : Int) > 1048576
  · simp only [hn3, if_true]
    exact Ev.now _
  simp only [hn3, if_false]
  obtain ⟨r, hr, hrl, hrs⟩ := szEntryS_ev l0 w0.1 w0.2 1048576 (by omega) (by omega)
  refine Ev.bind hr ?_
  by_cases hn : r < 0
  · simp only [hn, if_true]
    exact Ev.now _
  simp only [hn, if_false]
  have hl := hrs (by omega)
  have ht := toEntryS_ev l0 hl
  have hl2 : (l0.map cvEntry).length ≤ 1048576 := by simpa using hl
  obtain ⟨res, code, hs, hi, hres⟩ := scan_both (l0.map cvEntry) a1 a2 hl2
  refine Ev.bind ht (Ev.bind hs (Ev.bind ht (Ev.bind hi (Ev.bind (eqEntryS_ev res hres) ?_))))
  simp only [if_true, bne_self_eq_false]
  refine Ev.succ ?_
  simp only [laws_FnExactScan.j0, Bool.false_eq_true, if_false]
  refine Ev.bind ht (Ev.bind (eqEntryS_ev _ hl2) ?_)
  simp only [if_true]
  obtain ⟨la, _, hmA, _⟩ := markEntryS_ev (l0.map cvEntry) 1 hl2 (by omega) (by omega)
  refine Ev.bind hmA ?_
  have n1 : ¬ (1 + 2 * ((l0.map cvEntry).length : Int) < 0) := by omega
  simp only [n1, if_false]
  refine Ev.bind (eqEntryS_ev res hres) ?_
  simp only [if_true, bne_self_eq_false]
  refine Ev.succ ?_
  simp only [laws_FnExactScan.j1, Bool.false_eq_true, if_false]
  obtain ⟨lr, _, hmR, hhR⟩ := markEntryS_ev res 1 hres (by omega) (by omega)
  have n2 : ¬ (1 + 2 * (res.length : Int) < 0) := by omega
  refine Ev.bind hmR (Ev.bind hhR ?_)
  simp only [n2, if_false, if_true]
  refine Ev.bind ht (Ev.bind hi (Ev.bind (eqEntryS_ev res hres) ?_))
  simp only [if_true, bne_self_eq_false]
  refine Ev.succ ?_
  simp only [laws_FnExactScan.j2, Bool.false_eq_true, if_false]
  refine Ev.bind hhR ?_
  simp only [n2, if_false, if_true]
  exact Ev.now _
end Go.Proofs.Ytcpljigliklgcaa.Pure
end
