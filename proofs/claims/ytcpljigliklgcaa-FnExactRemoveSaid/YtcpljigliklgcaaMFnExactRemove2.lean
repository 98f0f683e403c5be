/- Parts of the proof of the law FnExactRemove, joined into one text. -/
import Derived.Test.YtcpljigliklgcaaMFnExactRemove1
section
namespace Go.Proofs.Ytcpljigliklgcaa.Q
open Go.RowKit Go.Proofs.YtcpljigliklgcaaW.PrintWords Go.Proofs.YtcpljigliklgcaaW.PrintLast Go.Proofs.YtcpljigliklgcaaW.PrintMore
attribute [local go_sem] max2_int min2_int max_two min_two max_three min_three max_four min_four   -- for this text's walks alone
set_option linter.unusedVariables false
set_option linter.unusedSimpArgs false
attribute [local go_sem] bin_leq bin_gtr bin_geq
abbrev impl_MapOK.m0 : Array Bool := #[false, false, false, false, false, false, false, false, false, false, false, false, false, false, false, false, false, false, false, false, false, false, false, false, false]
abbrev impl_MapOK.m1 : Array Bool := #[true, false, false, false, false, false, false, false, false, false, false, false, false, false, false, false, false, false, false, false, false, false, false, false, false]
abbrev impl_MapOK.m2 : Array Bool := #[true, true, false, false, false, false, false, false, false, false, false, false, false, false, false, false, false, false, false, false, false, false, false, false, false]
abbrev impl_MapOK.m3 : Array Bool := #[true, true, true, false, false, false, false, false, false, false, false, false, false, false, false, false, false, false, false, false, false, false, false, false, false]
abbrev impl_MapOK.m4 : Array Bool := #[true, true, true, true, false, false, false, false, false, false, false, false, false, false, false, false, false, false, false, false, false, false, false, false, false]
abbrev impl_MapOK.m5 : Array Bool := #[true, true, true, true, true, false, false, false, false, false, false, false, false, false, false, false, false, false, false, false, false, false, false, false, false]
abbrev impl_MapOK.m6 : Array Bool := #[true, true, true, true, true, true, false, false, false, false, false, false, false, false, false, false, false, false, false, false, false, false, false, false, false]
abbrev impl_MapOK.m7 : Array Bool := #[true, true, true, true, true, true, true, false, false, false, false, false, false, false, false, false, false, false, false, false, false, false, false, false, false]
abbrev impl_MapOK.m8 : Array Bool := #[true, true, true, true, true, true, true, true, false, false, false, false, false, false, false, false, false, false, false, false, false, false, false, false, false]
abbrev impl_MapOK.m9 : Array Bool := #[true, true, true, true, true, true, true, true, true, false, false, false, false, false, false, false, false, false, false, false, false, false, false, false, false]
abbrev impl_MapOK.m10 : Array Bool := #[true, true, true, true, true, true, true, true, true, true, false, false, false, false, false, false, false, false, false, false, false, false, false, false, false]
abbrev impl_MapOK.m11 : Array Bool := #[true, true, true, true, true, true, true, true, true, true, true, false, false, false, false, false, false, false, false, false, false, false, false, false, false]
abbrev impl_MapOK.m12 : Array Bool := #[true, true, true, true, true, true, true, true, true, true, true, true, false, false, false, false, false, false, false, false, false, false, false, false, false]
abbrev impl_MapOK.m13 : Array Bool := #[true, true, true, true, true, true, true, true, true, true, true, true, true, false, false, false, false, false, false, false, false, false, false, false, false]
abbrev impl_MapOK.m14 : Array Bool := #[true, true, true, true, true, true, true, true, true, true, true, true, true, true, false, false, false, false, false, false, false, false, false, false, false]
abbrev impl_MapOK.m15 : Array Bool := #[true, true, true, true, true, true, true, true, true, true, true, true, true, true, true, false, false, false, false, false, false, false, false, false, false]
abbrev impl_MapOK.m16 : Array Bool := #[true, true, true, true, true, true, true, true, true, true, true, true, true, true, true, true, false, false, false, false, false, false, false, false, false]
abbrev impl_MapOK.m17 : Array Bool := #[true, true, true, true, true, true, true, true, true, true, true, true, true, true, true, true, true, false, false, false, false, false, false, false, false]
abbrev impl_MapOK.m18 : Array Bool := #[true, true, true, true, true, true, true, true, true, true, true, true, true, true, true, true, true, true, false, false, false, false, false, false, false]
abbrev impl_MapOK.m19 : Array Bool := #[true, true, true, true, true, true, true, true, true, true, true, true, true, true, true, true, true, true, true, false, false, false, false, false, false]
abbrev impl_MapOK.m20 : Array Bool := #[true, true, true, true, true, true, true, true, true, true, true, true, true, true, true, true, true, true, true, false, true, false, false, false, false]
abbrev impl_MapOK.m21 : Array Bool := #[true, true, true, true, true, true, true, true, true, true, true, true, true, true, true, true, true, true, true, true, true, false, false, false, false]
abbrev impl_MapOK.m22 : Array Bool := #[true, true, true, true, true, true, true, true, true, true, true, true, true, true, true, true, true, true, true, true, true, true, false, false, false]
abbrev impl_MapOK.m23 : Array Bool := #[true, true, true, true, true, true, true, true, true, true, true, true, true, true, true, true, true, true, true, true, true, true, true, false, false]
abbrev impl_MapOK.m24 : Array Bool := #[true, true, true, true, true, true, true, true, true, true, true, true, true, true, true, true, true, true, true, true, true, true, true, true, false]
abbrev impl_MapOK.m25 : Array Bool := #[true, true, true, true, true, true, true, true, true, true, true, true, true, true, true, true, true, true, true, true, true, true, true, true, true]
abbrev impl_MapOK.m26 : Array Bool := #[true, true, true, true, true, true, true, true, true, true, true, true, true, true, true, true, true, true, true, true, false, false, false, false, false]
def impl_MapOK.l0 : Nat → List (S51) → List (S51) → Int → Int → Option (Bool)
  | 0, _, _, _, _ => none
  | k + 1, x0, x5, x6, x7 => if x7 < x6 then (if 0 ≤ x7 then (if x7 < (x5.length : Int) then ((impl_NameOK.f ((rd_T51 x5 x7).f0)).bind fun t159 => (if t159 = true then ((impl_isValue.f ((rd_T51 x5 x7).f1)).bind fun t160 => (if t160 = true then (if x7 > 0 then (if 0 ≤ (wrap64 (x7 - 1)) then (if (wrap64 (x7 - 1)) < (x0.length : Int) then (if ((Op.bytesLess (((rd_T51 x0 (wrap64 (x7 - 1))).f0).toList) (((rd_T51 x5 x7).f0).toList)) = true) then (impl_MapOK.l0 k x0 x5 x6 (wrap64 (x7 + 1))) else (some false)) else (none)) else (none)) else (impl_MapOK.l0 k x0 x5 x6 (wrap64 (x7 + 1)))) else (some false))) else (some false))) else (none)) else (none)) else (some (decide ((x0.length : Int) ≤ 12)))
def impl_MapOK.f (k : Nat) (l0 : List (S51)) : Option (Bool) := impl_MapOK.l0 k l0 l0 (l0.length : Int) 0
def impl_MapOK.T4 : Bool × List (List Nat × List Nat) := (true, [([], []), ([0], [0]), ([1], [1]), ([2], [2]), ([3, 2], [3]), ([4], [4]), ([5, 4], [4, 5]), ([6, 4, 4], [4, 6]), ([7, 4], [4, 7]), ([4, 8], [4, 8]), ([9, 7], [9]), ([10], [10]), ([11, 10], [10, 11]), ([12, 10, 10], [10, 12]), ([13], [13]), ([13], [13]), ([15, 13], [13, 15]), ([14, 16, 13], [13, 14, 16]), ([17, 13], [13, 17]), ([18, 13], [13, 18]), ([13], [13]), ([20, 13], [13, 20]), ([19, 21, 13], [13, 19, 21]), ([13, 22, 10], [10, 13, 22]), ([10, 23], [10, 23])])
def impl_MapOK.B4 : List Nat := [0, 1, 3, 7, 15, 31, 63, 127, 255, 511, 1023, 2047, 4095, 8191, 16383, 16383, 49151, 131071, 262143, 524287, 16383, 1064959, 4194303, 8388607, 16777215]
theorem impl_MapOK.tab4 : rtab .any (opsOf Try.f37 4) = impl_MapOK.T4 := by kernel_rfl
theorem impl_MapOK.bits4 : waitsOk impl_MapOK.T4.2 impl_MapOK.B4 = true := by kernel_rfl
set_option maxHeartbeats 8000000 in
set_option maxRecDepth 100000 in
theorem impl_MapOK.calls (k : Nat) (A0 : Option Addr) (c0 : Nat) (l0 : List (S51)) (r : Bool) (w : World) (hr0 : Kd.C k51 w A0 l0.length l0) (hc0 : l0.length ≤ c0) (h : impl_MapOK.f k l0 = some r) :
    Calls Try.prog 37 #[.slice A0 l0.length c0] w fun e w' => e = .returned (.bool r) ∧ Below w.heap.size w w' := by
  have hu51 := Try.underlying51
  have HR0 := Aside0.mk hr0
  have HC0 := Aside0.mk hc0
  clear hr0 hc0
  have HB := Aside0.mk (Below.refl w.heap.size w)
  have H : (impl_MapOK.l0 k l0 l0 (l0.length : Int) 0) = some r := h
  clear h
  have H' := Aside0.mk H
  clear H
  go_enter Try.func37, Try.ntmps37
  go_wp2
  go_loopg [7] k (fun kq v7 w' => ∃ (x7_1 : Int), v7 = .int .i64 x7_1 ∧ Aside0 (impl_MapOK.l0 kq l0 l0 (l0.length : Int) x7_1 = some r) ∧ Aside0 (kq ≤ k) ∧ Aside0 (Below w.heap.size w w'))
  case atStart => exact ⟨(0), vE, H', ⟨Nat.le_refl _⟩, ⟨bW⟩⟩
  case round =>
    clear H'
    obtain ⟨x7_1, rfl, HA, HK1, HB⟩ := hrel
    cases gk with
    | zero => exact absurd HA.out (by simp [impl_MapOK.l0])
    | succ k1 =>
      have H := HA.out
      clear HA
      simp only [impl_MapOK.l0] at H
      by_cases c2 : x7_1 < (l0.length : Int)
      · rw [if_pos c2] at H
        have c2b0 : decide (x7_1 < (l0.length : Int)) = true := decide_eq_true c2
        clear c2
        by_cases c3 : 0 ≤ x7_1
        · rw [if_pos c3] at H
          have c3b0 : decide (0 ≤ x7_1) = true := decide_eq_true c3
          clear c3
          by_cases c4 : x7_1 < (l0.length : Int)
          · rw [if_pos c4] at H
            have c4b0 : decide (x7_1 < (l0.length : Int)) = true := decide_eq_true c4
            clear c4
            replace H := Option.bind_eq_some_iff.mp H
            obtain ⟨t159, A50, H⟩ := H
            replace H : (if t159 = true then ((impl_isValue.f ((rd_T51 l0 x7_1).f1)).bind fun t160 => (if t160 = true then (if x7_1 > 0 then (if 0 ≤ (wrap64 (x7_1 - 1)) then (if (wrap64 (x7_1 - 1)) < (l0.length : Int) then (if ((Op.bytesLess (((rd_T51 l0 (wrap64 (x7_1 - 1))).f0).toList) (((rd_T51 l0 x7_1).f0).toList)) = true) then (impl_MapOK.l0 k1 l0 l0 (l0.length : Int) (wrap64 (x7_1 + 1))) else (some false)) else (none)) else (none)) else (impl_MapOK.l0 k1 l0 l0 (l0.length : Int) (wrap64 (x7_1 + 1)))) else (some false))) else (some false)) = some r := H
            have A5 := Aside0.mk A50
            clear A50
            by_cases c6 : t159 = true
            · subst c6
              have H1 : ((impl_isValue.f ((rd_T51 l0 x7_1).f1)).bind fun t160 => (if t160 = true then (if x7_1 > 0 then (if 0 ≤ (wrap64 (x7_1 - 1)) then (if (wrap64 (x7_1 - 1)) < (l0.length : Int) then (if ((Op.bytesLess (((rd_T51 l0 (wrap64 (x7_1 - 1))).f0).toList) (((rd_T51 l0 x7_1).f0).toList)) = true) then (impl_MapOK.l0 k1 l0 l0 (l0.length : Int) (wrap64 (x7_1 + 1))) else (some false)) else (none)) else (none)) else (impl_MapOK.l0 k1 l0 l0 (l0.length : Int) (wrap64 (x7_1 + 1)))) else (some false))) = some r := by rw [if_pos rfl] at H; exact H
              clear H
              have H := H1
              clear H1
              replace H := Option.bind_eq_some_iff.mp H
              obtain ⟨t160, A70, H⟩ := H
              replace H : (if t160 = true then (if x7_1 > 0 then (if 0 ≤ (wrap64 (x7_1 - 1)) then (if (wrap64 (x7_1 - 1)) < (l0.length : Int) then (if ((Op.bytesLess (((rd_T51 l0 (wrap64 (x7_1 - 1))).f0).toList) (((rd_T51 l0 x7_1).f0).toList)) = true) then (impl_MapOK.l0 k1 l0 l0 (l0.length : Int) (wrap64 (x7_1 + 1))) else (some false)) else (none)) else (none)) else (impl_MapOK.l0 k1 l0 l0 (l0.length : Int) (wrap64 (x7_1 + 1)))) else (some false)) = some r := H
              have A7 := Aside0.mk A70
              clear A70
              by_cases c8 : t160 = true
              · subst c8
                have H1 : (if x7_1 > 0 then (if 0 ≤ (wrap64 (x7_1 - 1)) then (if (wrap64 (x7_1 - 1)) < (l0.length : Int) then (if ((Op.bytesLess (((rd_T51 l0 (wrap64 (x7_1 - 1))).f0).toList) (((rd_T51 l0 x7_1).f0).toList)) = true) then (impl_MapOK.l0 k1 l0 l0 (l0.length : Int) (wrap64 (x7_1 + 1))) else (some false)) else (none)) else (none)) else (impl_MapOK.l0 k1 l0 l0 (l0.length : Int) (wrap64 (x7_1 + 1)))) = some r := by rw [if_pos rfl] at H; exact H
                clear H
                have H := H1
                clear H1
                by_cases c9 : x7_1 > 0
                · rw [if_pos c9] at H
                  have c9b0 : decide (0 < x7_1) = true := decide_eq_true c9
                  clear c9
                  obtain ⟨ji10, hji10⟩ : ∃ j_ : Int, (wrap64 (x7_1 - 1)) = j_ := ⟨_, rfl⟩
                  replace H : (if 0 ≤ (ji10) then (if (ji10) < (l0.length : Int) then (if ((Op.bytesLess (((rd_T51 l0 (ji10)).f0).toList) (((rd_T51 l0 x7_1).f0).toList)) = true) then (impl_MapOK.l0 k1 l0 l0 (l0.length : Int) (wrap64 (x7_1 + 1))) else (some false)) else (none)) else (none)) = some r := by first | (rw [hji10] at H; exact H) | (simp only [hji10] at H ⊢; exact H)
                  (try rw [hji10] at A5)
                  (try rw [hji10] at A7)
                  have hji10w : (IntKind.i64.wrap (x7_1 - 1)) = ji10 := (i64_w _).trans hji10
                  by_cases c11 : 0 ≤ (ji10)
                  · rw [if_pos c11] at H
                    have c11b0 : decide (0 ≤ (ji10)) = true := decide_eq_true c11
                    clear c11
                    by_cases c12 : (ji10) < (l0.length : Int)
                    · rw [if_pos c12] at H
                      have c12b0 : decide ((ji10) < (l0.length : Int)) = true := decide_eq_true c12
                      clear c12
                      by_cases c13 : ((Op.bytesLess (((rd_T51 l0 (ji10)).f0).toList) (((rd_T51 l0 x7_1).f0).toList)) = true)
                      · rw [if_pos c13] at H
                        have c13b0 : (Op.bytesLess (((rd_T51 l0 (ji10)).f0).toList) (((rd_T51 l0 x7_1).f0).toList)) = true := c13
                        clear c13
                        have H' := Aside0.mk H
                        clear H
                        have p157 : 0 ≤ (x7_1 : Int) := odt
                        have q157 : x7_1 < (l0.length : Int) := odt
                        obtain ⟨ad157, e157, hx157_0, hx157_1⟩ := at_T51 HR0.out x7_1 p157 q157
                        cases e157
                        replace hx157_0 := (HB.out.cell (World.block_lt_of_cell? w _ hx157_0)).trans hx157_0
                        replace hx157_1 := (HB.out.cell (World.block_lt_of_cell? w _ hx157_1)).trans hx157_1
                        replace p157 := eq_true p157
                        replace q157 := eq_true q157
                        try go_wp2_with (first | ((with_reducible refine gate_dst (N := 4) rfl ?_); refine bE (N := 4) (cs := #[.string (⟨#[]⟩ : ByteArray), .int .i64 0]) (t := 51) ?_; intro gb158 hg w14 hbox hb; have n0_ := Aside0.mk (below_step (w := w) bW hb); have n1_ := Aside0.mk (hbox); have n2_ := Aside0.mk (gS (w := w) hg); have n3_ := n2_; clear HB; have HB := n0_; have BK158 := n1_; have GW158 := n2_; have GE158 := n3_; clear n0_ n1_ n2_ n3_; clear hb hbox hg; obtain ⟨hcz15_0, hcz15_1⟩ := cz2 BK158; obtain ⟨hfz15_0, hfz15_1⟩ := fz2 BK158))
                        have n0_ : Aside0 (((w14.setCell ⟨gb158, 0, none⟩ (.string ((rd_T51 l0 x7_1).f0))).setCell ⟨gb158, 1, none⟩ (.int .i64 ((rd_T51 l0 x7_1).f1))).heap[gb158]? = some (.cells #[.string ((rd_T51 l0 x7_1).f0), .int .i64 ((rd_T51 l0 x7_1).f1)] 51 (0, 0))) := ⟨by (with_reducible repeat (first | refine blk_drewN ?_ _ | refine blk_drew ?_ | refine blk_alloc ?_ _)); refine blk_put (cs := #[.string ((rd_T51 l0 x7_1).f0), .int .i64 0]) ?_ 1 _ rfl; (with_reducible repeat (first | refine blk_drewN ?_ _ | refine blk_drew ?_ | refine blk_alloc ?_ _)); refine blk_put (cs := #[.string (⟨#[]⟩ : ByteArray), .int .i64 0]) ?_ 0 _ rfl; (with_reducible repeat (first | refine blk_drewN ?_ _ | refine blk_drew ?_ | refine blk_alloc ?_ _)); exact BK158.out⟩
                        have n1_ : Aside0 (Below w.heap.size w ((w14.setCell ⟨gb158, 0, none⟩ (.string ((rd_T51 l0 x7_1).f0))).setCell ⟨gb158, 1, none⟩ (.int .i64 ((rd_T51 l0 x7_1).f1)))) := ⟨bW⟩
                        (try clear BK158)
                        (try clear HB)
                        generalize ((w14.setCell ⟨gb158, 0, none⟩ (.string ((rd_T51 l0 x7_1).f0))).setCell ⟨gb158, 1, none⟩ (.int .i64 ((rd_T51 l0 x7_1).f1))) = w16 at n0_ n1_ ⊢
                        have BK158 := n0_
                        have HB := n1_
                        clear n0_ n1_
                        have n0_ := Aside0.mk (blk_drew BK158.out)
                        have n1_ := Aside0.mk (below_drew1 HB.out)
                        clear BK158
                        clear HB
                        have BK158 := n0_
                        have HB := n1_
                        clear n0_ n1_
                        have p161 : 0 ≤ ((ji10) : Int) := odt
                        have q161 : (ji10) < (l0.length : Int) := odt
                        obtain ⟨ad161, e161, hx161_0, hx161_1⟩ := at_T51 HR0.out (ji10) p161 q161
                        have hw161_1 := hx161_1
                        have hw161_0 := hx161_0
                        obtain rfl : ad157 = ad161 := (by injection e161)
                        replace hx161_0 := (HB.out.cell (World.block_lt_of_cell? w _ hx161_0)).trans hx161_0
                        replace hx161_1 := (HB.out.cell (World.block_lt_of_cell? w _ hx161_1)).trans hx161_1
                        replace p161 := eq_true p161
                        replace q161 := eq_true q161
                        refine start_ (n := 25) (S := fun w' => w'.cell? ⟨gb158, 0, none⟩ = some (.string ((rd_T51 l0 x7_1).f0)) ∧ w'.cell? ⟨gb158, 1, none⟩ = some (.int .i64 ((rd_T51 l0 x7_1).f1)) ∧ w'.cell? (ad157.add (((ji10)).toNat * 2)) = some (.string ((rd_T51 l0 (ji10)).f0)) ∧ w'.cell? ⟨(ad157.add (((ji10)).toNat * 2)).block, (ad157.add (((ji10)).toNat * 2)).off + 1, none⟩ = some (.int .i64 ((rd_T51 l0 (ji10)).f1))) (ds := []) impl_MapOK.m0 (by kernel_rfl) rfl rfl ⟨(blk_cell BK158.out 0).trans rfl, (blk_cell BK158.out 1).trans rfl, ((HB.out.cell (World.block_lt_of_cell? w _ hw161_0)).trans hw161_0), ((HB.out.cell (World.block_lt_of_cell? w _ hw161_1)).trans hw161_1)⟩ (fun hHeld => ?_); refine with_tabW impl_MapOK.tab4 impl_MapOK.bits4 (fun HT_ HW_ => ?_)
                        generalize w16.drew = w17 at BK158 HB hx161_0 hx161_1 hHeld ⊢
                        refine pure_ (i := 0) (N := some 12) (v := ?_) (a' := ?_) impl_MapOK.m1 rfl rfl (any_of HT_.out (by kernel_rfl)) (fun _ _ _ h => h) (Or.inl ⟨by rfl, ?_⟩) ?_ ?_; rotate_left; (focus intro w'; go_simp; with_reducible rfl); rotate_left; (focus simp only [pt, i64_w, i32_w]; rfl)
                        refine take_ (i := 1) (N := some 13) (v := ?_) (a' := ?_) impl_MapOK.m2 rfl rfl (take_ofW HT_.out HW_.out (by kernel_rfl)) (fun _ _ _ h => h) (Or.inl ⟨by rfl, ?_⟩) hHeld ?_ ?_; rotate_left; (focus rintro w' ⟨s0, s1, s2, s3⟩; go_simp; with_reducible rfl); rotate_left; (focus simp only [pt, i64_w, i32_w]; rfl)
                        refine one_ (i := 2) (N := some 14) impl_MapOK.m3 rfl rfl (one_of HT_.out (by kernel_rfl)) (by decide) (fun K hK => ?_)
                        refine goes_ Try.func110 (by kernel_rfl) rfl #[.string ((rd_T51 l0 x7_1).f0)] (by rfl) rfl rfl gA ?_
                        with_reducible refine (impl_NameOK.calls ((rd_T51 l0 x7_1).f0) true _ A5.out).mono ?_
                        rintro e w18 ⟨rfl, hb⟩
                        refine ⟨_, rfl, ?_⟩
                        have n0_ := Aside0.mk (kb BK158 hb)
                        have n1_ := Aside0.mk (below_step (w := w) bW hb)
                        clear BK158
                        clear HB
                        have BK158 := n0_
                        have HB := n1_
                        clear n0_ n1_
                        (try clear hb)
                        (try clear hb2)
                        (try clear hk)
                        (try clear hi)
                        refine hK.out _ _ ⟨(blk_cell BK158.out 0).trans rfl, (blk_cell BK158.out 1).trans rfl, ((HB.out.cell (World.block_lt_of_cell? w _ hw161_0)).trans hw161_0), ((HB.out.cell (World.block_lt_of_cell? w _ hw161_1)).trans hw161_1)⟩ (fun hHeld => ?_)
                        clear hK K
                        refine norm_ (a' := ?_) ?_ ?_
                        rotate_left
                        · show Act.put _ (some 14) _ = _
                          simp only [Act.put, List.setIfInBounds_toArray, List.set_cons_zero, List.set_cons_succ, i64_w, i32_w]
                          rfl
                        refine pure_ (i := 3) (N := some 15) (v := ?_) (a' := ?_) impl_MapOK.m4 rfl rfl (any_of HT_.out (by kernel_rfl)) (fun _ _ _ h => h) (Or.inl ⟨by rfl, ?_⟩) ?_ ?_; rotate_left; (focus intro w'; go_simp; with_reducible rfl); rotate_left; (focus simp only [pt, i64_w, i32_w]; rfl)
                        refine pure_ (i := 4) (N := some 16) (v := ?_) (a' := ?_) impl_MapOK.m5 rfl rfl (any_of HT_.out (by kernel_rfl)) (fun _ _ _ h => h) (Or.inl ⟨by rfl, ?_⟩) ?_ ?_; rotate_left; (focus intro w'; go_simp; with_reducible rfl); rotate_left; (focus simp only [pt, i64_w, i32_w]; rfl)
                        refine pure_ (i := 5) (N := some 17) (v := ?_) (a' := ?_) impl_MapOK.m6 rfl rfl (any_of HT_.out (by kernel_rfl)) (fun _ _ _ h => h) (Or.inl ⟨by rfl, ?_⟩) ?_ ?_; rotate_left; (focus intro w'; go_simp; with_reducible rfl); rotate_left; (focus simp only [pt, i64_w, i32_w]; rfl)
                        refine take_ (i := 6) (N := some 18) (v := ?_) (a' := ?_) impl_MapOK.m7 rfl rfl (take_ofW HT_.out HW_.out (by kernel_rfl)) (fun _ _ _ h => h) (Or.inl ⟨by rfl, ?_⟩) hHeld ?_ ?_; rotate_left; (focus rintro w' ⟨s0, s1, s2, s3⟩; go_simp; with_reducible rfl); rotate_left; (focus simp only [pt, i64_w, i32_w]; rfl)
                        refine one_ (i := 7) (N := some 19) impl_MapOK.m8 rfl rfl (one_of HT_.out (by kernel_rfl)) (by decide) (fun K hK => ?_)
                        refine goes_ Try.func86 (by kernel_rfl) rfl #[.int .i64 ((rd_T51 l0 x7_1).f1)] (by rfl) rfl rfl gA ?_
                        with_reducible refine (impl_isValue.calls ((rd_T51 l0 x7_1).f1) true _ A7.out).mono ?_
                        rintro e w' ⟨rfl, ⟨nd, rfl⟩⟩
                        refine ⟨_, rfl, ?_⟩
                        refine hK.out _ _ ⟨(blk_cell BK158.out 0).trans rfl, (blk_cell BK158.out 1).trans rfl, ((HB.out.cell (World.block_lt_of_cell? w _ hw161_0)).trans hw161_0), ((HB.out.cell (World.block_lt_of_cell? w _ hw161_1)).trans hw161_1)⟩ (fun hHeld => ?_)
                        clear hK K
                        refine norm_ (a' := ?_) ?_ ?_
                        rotate_left
                        · show Act.put _ (some 19) _ = _
                          simp only [Act.put, List.setIfInBounds_toArray, List.set_cons_zero, List.set_cons_succ, i64_w, i32_w]
                          rfl
                        refine pure_ (i := 8) (N := some 20) (v := ?_) (a' := ?_) impl_MapOK.m9 rfl rfl (any_of HT_.out (by kernel_rfl)) (fun _ _ _ h => h) (Or.inl ⟨by rfl, ?_⟩) ?_ ?_; rotate_left; (focus intro w'; go_simp; with_reducible rfl); rotate_left; (focus simp only [pt, i64_w, i32_w]; rfl)
                        refine pure_ (i := 9) (N := some 21) (v := ?_) (a' := ?_) impl_MapOK.m10 rfl rfl (any_of HT_.out (by kernel_rfl)) (fun _ _ _ h => h) (Or.inl ⟨by rfl, ?_⟩) ?_ ?_; rotate_left; (focus intro w'; go_simp; with_reducible rfl); rotate_left; (focus simp only [pt, i64_w, i32_w]; rfl)
                        refine pure_ (i := 10) (N := some 22) (v := ?_) (a' := ?_) impl_MapOK.m11 rfl rfl (any_of HT_.out (by kernel_rfl)) (fun _ _ _ h => h) (Or.inl ⟨by rfl, ?_⟩) ?_ ?_; rotate_left; (focus intro w'; go_simp; with_reducible rfl); rotate_left; (focus simp only [pt, i64_w, i32_w]; rfl)
                        refine pure_ (i := 11) (N := some 23) (v := ?_) (a' := ?_) impl_MapOK.m12 rfl rfl (any_of HT_.out (by kernel_rfl)) (fun _ _ _ h => h) (Or.inl ⟨by rfl, ?_⟩) ?_ ?_; rotate_left; (focus intro w'; go_simp; with_reducible rfl); rotate_left; (focus simp only [pt, i64_w, i32_w]; rfl)
                        refine pure_ (i := 12) (N := some 24) (v := ?_) (a' := ?_) impl_MapOK.m13 rfl rfl (any_of HT_.out (by kernel_rfl)) (fun _ _ _ h => h) (Or.inl ⟨by rfl, ?_⟩) ?_ ?_; rotate_left; (focus intro w'; go_simp; with_reducible rfl); rotate_left; (focus simp only [pt, i64_w, i32_w]; rfl)
                        refine pure_ (i := 13) (N := some 25) (v := ?_) (a' := ?_) impl_MapOK.m14 rfl rfl (any_of HT_.out (by kernel_rfl)) (fun _ _ _ h => h) (Or.inl ⟨by rfl, ?_⟩) ?_ ?_; rotate_left; (focus intro w'; go_simp; with_reducible rfl); rotate_left; (focus simp only [pt, i64_w, i32_w]; rfl)
                        refine pure_ (i := 14) (N := some 26) (v := ?_) (a' := ?_) impl_MapOK.m15 rfl rfl (any_of HT_.out (by kernel_rfl)) (fun _ _ _ h => h) (Or.inl ⟨by rfl, ?_⟩) ?_ ?_; rotate_left; (focus intro w'; go_simp; with_reducible rfl); rotate_left; (focus simp only [pt, i64_w, i32_w]; rfl)
                        refine pure_ (i := 15) (N := some 27) (v := ?_) (a' := ?_) impl_MapOK.m16 rfl rfl (any_of HT_.out (by kernel_rfl)) (fun _ _ _ h => h) (Or.inl ⟨by rfl, ?_⟩) ?_ ?_; rotate_left; (focus intro w'; go_simp; with_reducible rfl); rotate_left; (focus simp only [pt, i64_w, i32_w]; rfl)
                        refine pure_ (i := 16) (N := some 28) (v := ?_) (a' := ?_) impl_MapOK.m17 rfl rfl (any_of HT_.out (by kernel_rfl)) (fun _ _ _ h => h) (Or.inl ⟨by rfl, ?_⟩) ?_ ?_; rotate_left; (focus intro w'; go_simp; with_reducible rfl); rotate_left; (focus simp only [pt, i64_w, i32_w]; rfl)
                        refine pure_ (i := 17) (N := some 29) (v := ?_) (a' := ?_) impl_MapOK.m18 rfl rfl (any_of HT_.out (by kernel_rfl)) (fun _ _ _ h => h) (Or.inl ⟨by rfl, ?_⟩) ?_ ?_; rotate_left; (focus intro w'; go_simp; with_reducible rfl); rotate_left; (focus simp only [pt, i64_w, i32_w]; rfl)
                        refine pure_ (i := 18) (N := some 30) (v := ?_) (a' := ?_) impl_MapOK.m19 rfl rfl (any_of HT_.out (by kernel_rfl)) (fun _ _ _ h => h) (Or.inl ⟨by rfl, ?_⟩) ?_ ?_; rotate_left; (focus intro w'; go_simp; with_reducible rfl); rotate_left; (focus simp only [pt, i64_w, i32_w]; rfl)
                        refine pure_ (i := 20) (N := some 32) (v := ?_) (a' := ?_) impl_MapOK.m20 rfl rfl (any_of HT_.out (by kernel_rfl)) (fun _ _ _ h => h) (Or.inl ⟨by rfl, ?_⟩) ?_ ?_; rotate_left; (focus intro w'; go_simp; with_reducible rfl); rotate_left; (focus simp only [pt, i64_w, i32_w]; rfl)
                        refine take_ (i := 19) (N := some 31) (v := ?_) (a' := ?_) impl_MapOK.m21 rfl rfl (take_ofW HT_.out HW_.out (by kernel_rfl)) (fun _ _ _ h => h) (Or.inl ⟨by rfl, ?_⟩) hHeld ?_ ?_; rotate_left; (focus rintro w' ⟨s0, s1, s2, s3⟩; go_simp; with_reducible rfl); rotate_left; (focus simp only [pt, i64_w, i32_w]; rfl)
                        refine take_ (i := 21) (N := some 33) (v := ?_) (a' := ?_) impl_MapOK.m22 rfl rfl (take_ofW HT_.out HW_.out (by kernel_rfl)) (fun _ _ _ h => h) (Or.inl ⟨by rfl, ?_⟩) hHeld ?_ ?_; rotate_left; (focus rintro w' ⟨s0, s1, s2, s3⟩; go_simp; with_reducible rfl); rotate_left; (focus simp only [pt, i64_w, i32_w]; rfl)
                        refine pure_ (i := 22) (N := some 34) (v := ?_) (a' := ?_) impl_MapOK.m23 rfl rfl (any_of HT_.out (by kernel_rfl)) (fun _ _ _ h => h) (Or.inl ⟨by rfl, ?_⟩) ?_ ?_; rotate_left; (focus intro w'; go_simp; with_reducible rfl); rotate_left; (focus simp only [pt, i64_w, i32_w]; rfl)
                        refine pure_ (i := 23) (N := some 35) (v := ?_) (a' := ?_) impl_MapOK.m24 rfl rfl (any_of HT_.out (by kernel_rfl)) (fun _ _ _ h => h) (Or.inl ⟨by rfl, ?_⟩) ?_ ?_; rotate_left; (focus intro w'; go_simp; with_reducible rfl); rotate_left; (focus simp only [pt, i64_w, i32_w]; rfl)
                        refine pure_ (i := 24) (N := some 36) (v := ?_) (a' := ?_) impl_MapOK.m25 rfl rfl (any_of HT_.out (by kernel_rfl)) (fun _ _ _ h => h) (Or.inl ⟨by rfl, ?_⟩) ?_ ?_; rotate_left; (focus intro w'; go_simp; with_reducible rfl); rotate_left; (focus simp only [pt, i64_w, i32_w]; rfl)
                        refine done_ (done_of HT_.out (by kernel_rfl)) ?_
                        try go_wp2
                        go_roundg k1
                        case measure => have := HK1.out; omega
                        case rel => exact ⟨(wrap64 (x7_1 + 1)), vE, H', ⟨by have := HK1.out; omega⟩, ⟨bW⟩⟩
                      · rw [if_neg c13] at H
                        have c13b0 : (Op.bytesLess (((rd_T51 l0 (ji10)).f0).toList) (((rd_T51 l0 x7_1).f0).toList)) = false := by simpa using c13
                        clear c13
                        obtain rfl := Option.some.inj H
                        have p157 : 0 ≤ (x7_1 : Int) := odt
                        have q157 : x7_1 < (l0.length : Int) := odt
                        obtain ⟨ad157, e157, hx157_0, hx157_1⟩ := at_T51 HR0.out x7_1 p157 q157
                        cases e157
                        replace hx157_0 := (HB.out.cell (World.block_lt_of_cell? w _ hx157_0)).trans hx157_0
                        replace hx157_1 := (HB.out.cell (World.block_lt_of_cell? w _ hx157_1)).trans hx157_1
                        replace p157 := eq_true p157
                        replace q157 := eq_true q157
                        try go_wp2_with (first | ((with_reducible refine gate_dst (N := 4) rfl ?_); refine bE (N := 4) (cs := #[.string (⟨#[]⟩ : ByteArray), .int .i64 0]) (t := 51) ?_; intro gb158 hg w19 hbox hb; have n0_ := Aside0.mk (below_step (w := w) bW hb); have n1_ := Aside0.mk (hbox); have n2_ := Aside0.mk (gS (w := w) hg); have n3_ := n2_; clear HB; have HB := n0_; have BK158 := n1_; have GW158 := n2_; have GE158 := n3_; clear n0_ n1_ n2_ n3_; clear hb hbox hg; obtain ⟨hcz20_0, hcz20_1⟩ := cz2 BK158; obtain ⟨hfz20_0, hfz20_1⟩ := fz2 BK158))
                        have n0_ : Aside0 (((w19.setCell ⟨gb158, 0, none⟩ (.string ((rd_T51 l0 x7_1).f0))).setCell ⟨gb158, 1, none⟩ (.int .i64 ((rd_T51 l0 x7_1).f1))).heap[gb158]? = some (.cells #[.string ((rd_T51 l0 x7_1).f0), .int .i64 ((rd_T51 l0 x7_1).f1)] 51 (0, 0))) := ⟨by (with_reducible repeat (first | refine blk_drewN ?_ _ | refine blk_drew ?_ | refine blk_alloc ?_ _)); refine blk_put (cs := #[.string ((rd_T51 l0 x7_1).f0), .int .i64 0]) ?_ 1 _ rfl; (with_reducible repeat (first | refine blk_drewN ?_ _ | refine blk_drew ?_ | refine blk_alloc ?_ _)); refine blk_put (cs := #[.string (⟨#[]⟩ : ByteArray), .int .i64 0]) ?_ 0 _ rfl; (with_reducible repeat (first | refine blk_drewN ?_ _ | refine blk_drew ?_ | refine blk_alloc ?_ _)); exact BK158.out⟩
                        have n1_ : Aside0 (Below w.heap.size w ((w19.setCell ⟨gb158, 0, none⟩ (.string ((rd_T51 l0 x7_1).f0))).setCell ⟨gb158, 1, none⟩ (.int .i64 ((rd_T51 l0 x7_1).f1)))) := ⟨bW⟩
                        (try clear BK158)
                        (try clear HB)
                        generalize ((w19.setCell ⟨gb158, 0, none⟩ (.string ((rd_T51 l0 x7_1).f0))).setCell ⟨gb158, 1, none⟩ (.int .i64 ((rd_T51 l0 x7_1).f1))) = w21 at n0_ n1_ ⊢
                        have BK158 := n0_
                        have HB := n1_
                        clear n0_ n1_
                        have n0_ := Aside0.mk (blk_drew BK158.out)
                        have n1_ := Aside0.mk (below_drew1 HB.out)
                        clear BK158
                        clear HB
                        have BK158 := n0_
                        have HB := n1_
                        clear n0_ n1_
                        have p161 : 0 ≤ ((ji10) : Int) := odt
                        have q161 : (ji10) < (l0.length : Int) := odt
                        obtain ⟨ad161, e161, hx161_0, hx161_1⟩ := at_T51 HR0.out (ji10) p161 q161
                        have hw161_1 := hx161_1
                        have hw161_0 := hx161_0
                        obtain rfl : ad157 = ad161 := (by injection e161)
                        replace hx161_0 := (HB.out.cell (World.block_lt_of_cell? w _ hx161_0)).trans hx161_0
                        replace hx161_1 := (HB.out.cell (World.block_lt_of_cell? w _ hx161_1)).trans hx161_1
                        replace p161 := eq_true p161
                        replace q161 := eq_true q161
                        refine start_ (n := 25) (S := fun w' => w'.cell? ⟨gb158, 0, none⟩ = some (.string ((rd_T51 l0 x7_1).f0)) ∧ w'.cell? ⟨gb158, 1, none⟩ = some (.int .i64 ((rd_T51 l0 x7_1).f1)) ∧ w'.cell? (ad157.add (((ji10)).toNat * 2)) = some (.string ((rd_T51 l0 (ji10)).f0)) ∧ w'.cell? ⟨(ad157.add (((ji10)).toNat * 2)).block, (ad157.add (((ji10)).toNat * 2)).off + 1, none⟩ = some (.int .i64 ((rd_T51 l0 (ji10)).f1))) (ds := []) impl_MapOK.m0 (by kernel_rfl) rfl rfl ⟨(blk_cell BK158.out 0).trans rfl, (blk_cell BK158.out 1).trans rfl, ((HB.out.cell (World.block_lt_of_cell? w _ hw161_0)).trans hw161_0), ((HB.out.cell (World.block_lt_of_cell? w _ hw161_1)).trans hw161_1)⟩ (fun hHeld => ?_); refine with_tabW impl_MapOK.tab4 impl_MapOK.bits4 (fun HT_ HW_ => ?_)
                        generalize w21.drew = w22 at BK158 HB hx161_0 hx161_1 hHeld ⊢
                        refine pure_ (i := 0) (N := some 12) (v := ?_) (a' := ?_) impl_MapOK.m1 rfl rfl (any_of HT_.out (by kernel_rfl)) (fun _ _ _ h => h) (Or.inl ⟨by rfl, ?_⟩) ?_ ?_; rotate_left; (focus intro w'; go_simp; with_reducible rfl); rotate_left; (focus simp only [pt, i64_w, i32_w]; rfl)
                        refine take_ (i := 1) (N := some 13) (v := ?_) (a' := ?_) impl_MapOK.m2 rfl rfl (take_ofW HT_.out HW_.out (by kernel_rfl)) (fun _ _ _ h => h) (Or.inl ⟨by rfl, ?_⟩) hHeld ?_ ?_; rotate_left; (focus rintro w' ⟨s0, s1, s2, s3⟩; go_simp; with_reducible rfl); rotate_left; (focus simp only [pt, i64_w, i32_w]; rfl)
                        refine one_ (i := 2) (N := some 14) impl_MapOK.m3 rfl rfl (one_of HT_.out (by kernel_rfl)) (by decide) (fun K hK => ?_)
                        refine goes_ Try.func110 (by kernel_rfl) rfl #[.string ((rd_T51 l0 x7_1).f0)] (by rfl) rfl rfl gA ?_
                        with_reducible refine (impl_NameOK.calls ((rd_T51 l0 x7_1).f0) true _ A5.out).mono ?_
                        rintro e w23 ⟨rfl, hb⟩
                        refine ⟨_, rfl, ?_⟩
                        have n0_ := Aside0.mk (kb BK158 hb)
                        have n1_ := Aside0.mk (below_step (w := w) bW hb)
                        clear BK158
                        clear HB
                        have BK158 := n0_
                        have HB := n1_
                        clear n0_ n1_
                        (try clear hb)
                        (try clear hb2)
                        (try clear hk)
                        (try clear hi)
                        refine hK.out _ _ ⟨(blk_cell BK158.out 0).trans rfl, (blk_cell BK158.out 1).trans rfl, ((HB.out.cell (World.block_lt_of_cell? w _ hw161_0)).trans hw161_0), ((HB.out.cell (World.block_lt_of_cell? w _ hw161_1)).trans hw161_1)⟩ (fun hHeld => ?_)
                        clear hK K
                        refine norm_ (a' := ?_) ?_ ?_
                        rotate_left
                        · show Act.put _ (some 14) _ = _
                          simp only [Act.put, List.setIfInBounds_toArray, List.set_cons_zero, List.set_cons_succ, i64_w, i32_w]
                          rfl
                        refine pure_ (i := 3) (N := some 15) (v := ?_) (a' := ?_) impl_MapOK.m4 rfl rfl (any_of HT_.out (by kernel_rfl)) (fun _ _ _ h => h) (Or.inl ⟨by rfl, ?_⟩) ?_ ?_; rotate_left; (focus intro w'; go_simp; with_reducible rfl); rotate_left; (focus simp only [pt, i64_w, i32_w]; rfl)
                        refine pure_ (i := 4) (N := some 16) (v := ?_) (a' := ?_) impl_MapOK.m5 rfl rfl (any_of HT_.out (by kernel_rfl)) (fun _ _ _ h => h) (Or.inl ⟨by rfl, ?_⟩) ?_ ?_; rotate_left; (focus intro w'; go_simp; with_reducible rfl); rotate_left; (focus simp only [pt, i64_w, i32_w]; rfl)
                        refine pure_ (i := 5) (N := some 17) (v := ?_) (a' := ?_) impl_MapOK.m6 rfl rfl (any_of HT_.out (by kernel_rfl)) (fun _ _ _ h => h) (Or.inl ⟨by rfl, ?_⟩) ?_ ?_; rotate_left; (focus intro w'; go_simp; with_reducible rfl); rotate_left; (focus simp only [pt, i64_w, i32_w]; rfl)
                        refine take_ (i := 6) (N := some 18) (v := ?_) (a' := ?_) impl_MapOK.m7 rfl rfl (take_ofW HT_.out HW_.out (by kernel_rfl)) (fun _ _ _ h => h) (Or.inl ⟨by rfl, ?_⟩) hHeld ?_ ?_; rotate_left; (focus rintro w' ⟨s0, s1, s2, s3⟩; go_simp; with_reducible rfl); rotate_left; (focus simp only [pt, i64_w, i32_w]; rfl)
                        refine one_ (i := 7) (N := some 19) impl_MapOK.m8 rfl rfl (one_of HT_.out (by kernel_rfl)) (by decide) (fun K hK => ?_)
                        refine goes_ Try.func86 (by kernel_rfl) rfl #[.int .i64 ((rd_T51 l0 x7_1).f1)] (by rfl) rfl rfl gA ?_
                        with_reducible refine (impl_isValue.calls ((rd_T51 l0 x7_1).f1) true _ A7.out).mono ?_
                        rintro e w' ⟨rfl, ⟨nd, rfl⟩⟩
                        refine ⟨_, rfl, ?_⟩
                        refine hK.out _ _ ⟨(blk_cell BK158.out 0).trans rfl, (blk_cell BK158.out 1).trans rfl, ((HB.out.cell (World.block_lt_of_cell? w _ hw161_0)).trans hw161_0), ((HB.out.cell (World.block_lt_of_cell? w _ hw161_1)).trans hw161_1)⟩ (fun hHeld => ?_)
                        clear hK K
                        refine norm_ (a' := ?_) ?_ ?_
                        rotate_left
                        · show Act.put _ (some 19) _ = _
                          simp only [Act.put, List.setIfInBounds_toArray, List.set_cons_zero, List.set_cons_succ, i64_w, i32_w]
                          rfl
                        refine pure_ (i := 8) (N := some 20) (v := ?_) (a' := ?_) impl_MapOK.m9 rfl rfl (any_of HT_.out (by kernel_rfl)) (fun _ _ _ h => h) (Or.inl ⟨by rfl, ?_⟩) ?_ ?_; rotate_left; (focus intro w'; go_simp; with_reducible rfl); rotate_left; (focus simp only [pt, i64_w, i32_w]; rfl)
                        refine pure_ (i := 9) (N := some 21) (v := ?_) (a' := ?_) impl_MapOK.m10 rfl rfl (any_of HT_.out (by kernel_rfl)) (fun _ _ _ h => h) (Or.inl ⟨by rfl, ?_⟩) ?_ ?_; rotate_left; (focus intro w'; go_simp; with_reducible rfl); rotate_left; (focus simp only [pt, i64_w, i32_w]; rfl)
                        refine pure_ (i := 10) (N := some 22) (v := ?_) (a' := ?_) impl_MapOK.m11 rfl rfl (any_of HT_.out (by kernel_rfl)) (fun _ _ _ h => h) (Or.inl ⟨by rfl, ?_⟩) ?_ ?_; rotate_left; (focus intro w'; go_simp; with_reducible rfl); rotate_left; (focus simp only [pt, i64_w, i32_w]; rfl)
                        refine pure_ (i := 11) (N := some 23) (v := ?_) (a' := ?_) impl_MapOK.m12 rfl rfl (any_of HT_.out (by kernel_rfl)) (fun _ _ _ h => h) (Or.inl ⟨by rfl, ?_⟩) ?_ ?_; rotate_left; (focus intro w'; go_simp; with_reducible rfl); rotate_left; (focus simp only [pt, i64_w, i32_w]; rfl)
                        refine pure_ (i := 12) (N := some 24) (v := ?_) (a' := ?_) impl_MapOK.m13 rfl rfl (any_of HT_.out (by kernel_rfl)) (fun _ _ _ h => h) (Or.inl ⟨by rfl, ?_⟩) ?_ ?_; rotate_left; (focus intro w'; go_simp; with_reducible rfl); rotate_left; (focus simp only [pt, i64_w, i32_w]; rfl)
                        refine pure_ (i := 13) (N := some 25) (v := ?_) (a' := ?_) impl_MapOK.m14 rfl rfl (any_of HT_.out (by kernel_rfl)) (fun _ _ _ h => h) (Or.inl ⟨by rfl, ?_⟩) ?_ ?_; rotate_left; (focus intro w'; go_simp; with_reducible rfl); rotate_left; (focus simp only [pt, i64_w, i32_w]; rfl)
                        refine pure_ (i := 14) (N := some 26) (v := ?_) (a' := ?_) impl_MapOK.m15 rfl rfl (any_of HT_.out (by kernel_rfl)) (fun _ _ _ h => h) (Or.inl ⟨by rfl, ?_⟩) ?_ ?_; rotate_left; (focus intro w'; go_simp; with_reducible rfl); rotate_left; (focus simp only [pt, i64_w, i32_w]; rfl)
                        refine pure_ (i := 15) (N := some 27) (v := ?_) (a' := ?_) impl_MapOK.m16 rfl rfl (any_of HT_.out (by kernel_rfl)) (fun _ _ _ h => h) (Or.inl ⟨by rfl, ?_⟩) ?_ ?_; rotate_left; (focus intro w'; go_simp; with_reducible rfl); rotate_left; (focus simp only [pt, i64_w, i32_w]; rfl)
                        refine pure_ (i := 16) (N := some 28) (v := ?_) (a' := ?_) impl_MapOK.m17 rfl rfl (any_of HT_.out (by kernel_rfl)) (fun _ _ _ h => h) (Or.inl ⟨by rfl, ?_⟩) ?_ ?_; rotate_left; (focus intro w'; go_simp; with_reducible rfl); rotate_left; (focus simp only [pt, i64_w, i32_w]; rfl)
                        refine pure_ (i := 17) (N := some 29) (v := ?_) (a' := ?_) impl_MapOK.m18 rfl rfl (any_of HT_.out (by kernel_rfl)) (fun _ _ _ h => h) (Or.inl ⟨by rfl, ?_⟩) ?_ ?_; rotate_left; (focus intro w'; go_simp; with_reducible rfl); rotate_left; (focus simp only [pt, i64_w, i32_w]; rfl)
                        refine pure_ (i := 18) (N := some 30) (v := ?_) (a' := ?_) impl_MapOK.m19 rfl rfl (any_of HT_.out (by kernel_rfl)) (fun _ _ _ h => h) (Or.inl ⟨by rfl, ?_⟩) ?_ ?_; rotate_left; (focus intro w'; go_simp; with_reducible rfl); rotate_left; (focus simp only [pt, i64_w, i32_w]; rfl)
                        refine pure_ (i := 20) (N := some 32) (v := ?_) (a' := ?_) impl_MapOK.m20 rfl rfl (any_of HT_.out (by kernel_rfl)) (fun _ _ _ h => h) (Or.inl ⟨by rfl, ?_⟩) ?_ ?_; rotate_left; (focus intro w'; go_simp; with_reducible rfl); rotate_left; (focus simp only [pt, i64_w, i32_w]; rfl)
                        refine take_ (i := 19) (N := some 31) (v := ?_) (a' := ?_) impl_MapOK.m21 rfl rfl (take_ofW HT_.out HW_.out (by kernel_rfl)) (fun _ _ _ h => h) (Or.inl ⟨by rfl, ?_⟩) hHeld ?_ ?_; rotate_left; (focus rintro w' ⟨s0, s1, s2, s3⟩; go_simp; with_reducible rfl); rotate_left; (focus simp only [pt, i64_w, i32_w]; rfl)
                        refine take_ (i := 21) (N := some 33) (v := ?_) (a' := ?_) impl_MapOK.m22 rfl rfl (take_ofW HT_.out HW_.out (by kernel_rfl)) (fun _ _ _ h => h) (Or.inl ⟨by rfl, ?_⟩) hHeld ?_ ?_; rotate_left; (focus rintro w' ⟨s0, s1, s2, s3⟩; go_simp; with_reducible rfl); rotate_left; (focus simp only [pt, i64_w, i32_w]; rfl)
                        refine pure_ (i := 22) (N := some 34) (v := ?_) (a' := ?_) impl_MapOK.m23 rfl rfl (any_of HT_.out (by kernel_rfl)) (fun _ _ _ h => h) (Or.inl ⟨by rfl, ?_⟩) ?_ ?_; rotate_left; (focus intro w'; go_simp; with_reducible rfl); rotate_left; (focus simp only [pt, i64_w, i32_w]; rfl)
                        refine pure_ (i := 23) (N := some 35) (v := ?_) (a' := ?_) impl_MapOK.m24 rfl rfl (any_of HT_.out (by kernel_rfl)) (fun _ _ _ h => h) (Or.inl ⟨by rfl, ?_⟩) ?_ ?_; rotate_left; (focus intro w'; go_simp; with_reducible rfl); rotate_left; (focus simp only [pt, i64_w, i32_w]; rfl)
                        refine pure_ (i := 24) (N := some 36) (v := ?_) (a' := ?_) impl_MapOK.m25 rfl rfl (any_of HT_.out (by kernel_rfl)) (fun _ _ _ h => h) (Or.inl ⟨by rfl, ?_⟩) ?_ ?_; rotate_left; (focus intro w'; go_simp; with_reducible rfl); rotate_left; (focus simp only [pt, i64_w, i32_w]; rfl)
                        refine done_ (done_of HT_.out (by kernel_rfl)) ?_
                        try go_wp2
                        go_ret
                        exact ⟨by first | rfl | (simp [errW_none, errW_some] <;> rfl) | (simp only [← hji10]; first | rfl | (simp [errW_none, errW_some] <;> rfl)) | (simp [*, errW_none, errW_some] <;> rfl), bW⟩
                    · rw [if_neg c12] at H
                      exact absurd H (by simp)
                  · rw [if_neg c11] at H
                    exact absurd H (by simp)
                · rw [if_neg c9] at H
                  have c9b0 : decide (0 < x7_1) = false := decide_eq_false c9
                  clear c9
                  have H' := Aside0.mk H
                  clear H
                  have p157 : 0 ≤ (x7_1 : Int) := odt
                  have q157 : x7_1 < (l0.length : Int) := odt
                  obtain ⟨ad157, e157, hx157_0, hx157_1⟩ := at_T51 HR0.out x7_1 p157 q157
                  cases e157
                  replace hx157_0 := (HB.out.cell (World.block_lt_of_cell? w _ hx157_0)).trans hx157_0
                  replace hx157_1 := (HB.out.cell (World.block_lt_of_cell? w _ hx157_1)).trans hx157_1
                  replace p157 := eq_true p157
                  replace q157 := eq_true q157
                  try go_wp2_with (first | ((with_reducible refine gate_dst (N := 4) rfl ?_); refine bE (N := 4) (cs := #[.string (⟨#[]⟩ : ByteArray), .int .i64 0]) (t := 51) ?_; intro gb158 hg w24 hbox hb; have n0_ := Aside0.mk (below_step (w := w) bW hb); have n1_ := Aside0.mk (hbox); have n2_ := Aside0.mk (gS (w := w) hg); have n3_ := n2_; clear HB; have HB := n0_; have BK158 := n1_; have GW158 := n2_; have GE158 := n3_; clear n0_ n1_ n2_ n3_; clear hb hbox hg; obtain ⟨hcz25_0, hcz25_1⟩ := cz2 BK158; obtain ⟨hfz25_0, hfz25_1⟩ := fz2 BK158))
                  have n0_ : Aside0 (((w24.setCell ⟨gb158, 0, none⟩ (.string ((rd_T51 l0 x7_1).f0))).setCell ⟨gb158, 1, none⟩ (.int .i64 ((rd_T51 l0 x7_1).f1))).heap[gb158]? = some (.cells #[.string ((rd_T51 l0 x7_1).f0), .int .i64 ((rd_T51 l0 x7_1).f1)] 51 (0, 0))) := ⟨by (with_reducible repeat (first | refine blk_drewN ?_ _ | refine blk_drew ?_ | refine blk_alloc ?_ _)); refine blk_put (cs := #[.string ((rd_T51 l0 x7_1).f0), .int .i64 0]) ?_ 1 _ rfl; (with_reducible repeat (first | refine blk_drewN ?_ _ | refine blk_drew ?_ | refine blk_alloc ?_ _)); refine blk_put (cs := #[.string (⟨#[]⟩ : ByteArray), .int .i64 0]) ?_ 0 _ rfl; (with_reducible repeat (first | refine blk_drewN ?_ _ | refine blk_drew ?_ | refine blk_alloc ?_ _)); exact BK158.out⟩
                  have n1_ : Aside0 (Below w.heap.size w ((w24.setCell ⟨gb158, 0, none⟩ (.string ((rd_T51 l0 x7_1).f0))).setCell ⟨gb158, 1, none⟩ (.int .i64 ((rd_T51 l0 x7_1).f1)))) := ⟨bW⟩
                  (try clear BK158)
                  (try clear HB)
                  generalize ((w24.setCell ⟨gb158, 0, none⟩ (.string ((rd_T51 l0 x7_1).f0))).setCell ⟨gb158, 1, none⟩ (.int .i64 ((rd_T51 l0 x7_1).f1))) = w26 at n0_ n1_ ⊢
                  have BK158 := n0_
                  have HB := n1_
                  clear n0_ n1_
                  have n0_ := Aside0.mk (blk_drew BK158.out)
                  have n1_ := Aside0.mk (below_drew1 HB.out)
                  clear BK158
                  clear HB
                  have BK158 := n0_
                  have HB := n1_
                  clear n0_ n1_
                  refine start_ (n := 25) (S := fun w' => w'.cell? ⟨gb158, 0, none⟩ = some (.string ((rd_T51 l0 x7_1).f0)) ∧ w'.cell? ⟨gb158, 1, none⟩ = some (.int .i64 ((rd_T51 l0 x7_1).f1))) (ds := []) impl_MapOK.m0 (by kernel_rfl) rfl rfl ⟨(blk_cell BK158.out 0).trans rfl, (blk_cell BK158.out 1).trans rfl⟩ (fun hHeld => ?_); refine with_tabW impl_MapOK.tab4 impl_MapOK.bits4 (fun HT_ HW_ => ?_)
                  generalize w26.drew = w27 at BK158 HB hHeld ⊢
                  refine pure_ (i := 0) (N := some 12) (v := ?_) (a' := ?_) impl_MapOK.m1 rfl rfl (any_of HT_.out (by kernel_rfl)) (fun _ _ _ h => h) (Or.inl ⟨by rfl, ?_⟩) ?_ ?_; rotate_left; (focus intro w'; go_simp; with_reducible rfl); rotate_left; (focus simp only [pt, i64_w, i32_w]; rfl)
                  refine take_ (i := 1) (N := some 13) (v := ?_) (a' := ?_) impl_MapOK.m2 rfl rfl (take_ofW HT_.out HW_.out (by kernel_rfl)) (fun _ _ _ h => h) (Or.inl ⟨by rfl, ?_⟩) hHeld ?_ ?_; rotate_left; (focus rintro w' ⟨s0, s1⟩; go_simp; with_reducible rfl); rotate_left; (focus simp only [pt, i64_w, i32_w]; rfl)
                  refine one_ (i := 2) (N := some 14) impl_MapOK.m3 rfl rfl (one_of HT_.out (by kernel_rfl)) (by decide) (fun K hK => ?_)
                  refine goes_ Try.func110 (by kernel_rfl) rfl #[.string ((rd_T51 l0 x7_1).f0)] (by rfl) rfl rfl gA ?_
                  with_reducible refine (impl_NameOK.calls ((rd_T51 l0 x7_1).f0) true _ A5.out).mono ?_
                  rintro e w28 ⟨rfl, hb⟩
                  refine ⟨_, rfl, ?_⟩
                  have n0_ := Aside0.mk (kb BK158 hb)
                  have n1_ := Aside0.mk (below_step (w := w) bW hb)
                  clear BK158
                  clear HB
                  have BK158 := n0_
                  have HB := n1_
                  clear n0_ n1_
                  (try clear hb)
                  (try clear hb2)
                  (try clear hk)
                  (try clear hi)
                  refine hK.out _ _ ⟨(blk_cell BK158.out 0).trans rfl, (blk_cell BK158.out 1).trans rfl⟩ (fun hHeld => ?_)
                  clear hK K
                  refine norm_ (a' := ?_) ?_ ?_
                  rotate_left
                  · show Act.put _ (some 14) _ = _
                    simp only [Act.put, List.setIfInBounds_toArray, List.set_cons_zero, List.set_cons_succ, i64_w, i32_w]
                    rfl
                  refine pure_ (i := 3) (N := some 15) (v := ?_) (a' := ?_) impl_MapOK.m4 rfl rfl (any_of HT_.out (by kernel_rfl)) (fun _ _ _ h => h) (Or.inl ⟨by rfl, ?_⟩) ?_ ?_; rotate_left; (focus intro w'; go_simp; with_reducible rfl); rotate_left; (focus simp only [pt, i64_w, i32_w]; rfl)
                  refine pure_ (i := 4) (N := some 16) (v := ?_) (a' := ?_) impl_MapOK.m5 rfl rfl (any_of HT_.out (by kernel_rfl)) (fun _ _ _ h => h) (Or.inl ⟨by rfl, ?_⟩) ?_ ?_; rotate_left; (focus intro w'; go_simp; with_reducible rfl); rotate_left; (focus simp only [pt, i64_w, i32_w]; rfl)
                  refine pure_ (i := 5) (N := some 17) (v := ?_) (a' := ?_) impl_MapOK.m6 rfl rfl (any_of HT_.out (by kernel_rfl)) (fun _ _ _ h => h) (Or.inl ⟨by rfl, ?_⟩) ?_ ?_; rotate_left; (focus intro w'; go_simp; with_reducible rfl); rotate_left; (focus simp only [pt, i64_w, i32_w]; rfl)
                  refine take_ (i := 6) (N := some 18) (v := ?_) (a' := ?_) impl_MapOK.m7 rfl rfl (take_ofW HT_.out HW_.out (by kernel_rfl)) (fun _ _ _ h => h) (Or.inl ⟨by rfl, ?_⟩) hHeld ?_ ?_; rotate_left; (focus rintro w' ⟨s0, s1⟩; go_simp; with_reducible rfl); rotate_left; (focus simp only [pt, i64_w, i32_w]; rfl)
                  refine one_ (i := 7) (N := some 19) impl_MapOK.m8 rfl rfl (one_of HT_.out (by kernel_rfl)) (by decide) (fun K hK => ?_)
                  refine goes_ Try.func86 (by kernel_rfl) rfl #[.int .i64 ((rd_T51 l0 x7_1).f1)] (by rfl) rfl rfl gA ?_
                  with_reducible refine (impl_isValue.calls ((rd_T51 l0 x7_1).f1) true _ A7.out).mono ?_
                  rintro e w' ⟨rfl, ⟨nd, rfl⟩⟩
                  refine ⟨_, rfl, ?_⟩
                  refine hK.out _ _ ⟨(blk_cell BK158.out 0).trans rfl, (blk_cell BK158.out 1).trans rfl⟩ (fun hHeld => ?_)
                  clear hK K
                  refine norm_ (a' := ?_) ?_ ?_
                  rotate_left
                  · show Act.put _ (some 19) _ = _
                    simp only [Act.put, List.setIfInBounds_toArray, List.set_cons_zero, List.set_cons_succ, i64_w, i32_w]
                    rfl
                  refine pure_ (i := 8) (N := some 20) (v := ?_) (a' := ?_) impl_MapOK.m9 rfl rfl (any_of HT_.out (by kernel_rfl)) (fun _ _ _ h => h) (Or.inl ⟨by rfl, ?_⟩) ?_ ?_; rotate_left; (focus intro w'; go_simp; with_reducible rfl); rotate_left; (focus simp only [pt, i64_w, i32_w]; rfl)
                  refine pure_ (i := 9) (N := some 21) (v := ?_) (a' := ?_) impl_MapOK.m10 rfl rfl (any_of HT_.out (by kernel_rfl)) (fun _ _ _ h => h) (Or.inl ⟨by rfl, ?_⟩) ?_ ?_; rotate_left; (focus intro w'; go_simp; with_reducible rfl); rotate_left; (focus simp only [pt, i64_w, i32_w]; rfl)
                  refine pure_ (i := 10) (N := some 22) (v := ?_) (a' := ?_) impl_MapOK.m11 rfl rfl (any_of HT_.out (by kernel_rfl)) (fun _ _ _ h => h) (Or.inl ⟨by rfl, ?_⟩) ?_ ?_; rotate_left; (focus intro w'; go_simp; with_reducible rfl); rotate_left; (focus simp only [pt, i64_w, i32_w]; rfl)
                  refine pure_ (i := 11) (N := some 23) (v := ?_) (a' := ?_) impl_MapOK.m12 rfl rfl (any_of HT_.out (by kernel_rfl)) (fun _ _ _ h => h) (Or.inl ⟨by rfl, ?_⟩) ?_ ?_; rotate_left; (focus intro w'; go_simp; with_reducible rfl); rotate_left; (focus simp only [pt, i64_w, i32_w]; rfl)
                  refine pure_ (i := 12) (N := some 24) (v := ?_) (a' := ?_) impl_MapOK.m13 rfl rfl (any_of HT_.out (by kernel_rfl)) (fun _ _ _ h => h) (Or.inl ⟨by rfl, ?_⟩) ?_ ?_; rotate_left; (focus intro w'; go_simp; with_reducible rfl); rotate_left; (focus simp only [pt, i64_w, i32_w]; rfl)
                  refine pure_ (i := 13) (N := some 25) (v := ?_) (a' := ?_) impl_MapOK.m14 rfl rfl (any_of HT_.out (by kernel_rfl)) (fun _ _ _ h => h) (Or.inl ⟨by rfl, ?_⟩) ?_ ?_; rotate_left; (focus intro w'; go_simp; with_reducible rfl); rotate_left; (focus simp only [pt, i64_w, i32_w]; rfl)
                  refine pure_ (i := 14) (N := some 26) (v := undef) (a' := ?_) impl_MapOK.m15 rfl rfl (any_of HT_.out (by kernel_rfl)) (fun _ _ _ h => h) (Or.inr ⟨by rfl, rfl⟩) ?_ ?_; rotate_left; (focus simp only [pt, i64_w, i32_w]; rfl)
                  refine pure_ (i := 15) (N := some 27) (v := undef) (a' := ?_) impl_MapOK.m16 rfl rfl (any_of HT_.out (by kernel_rfl)) (fun _ _ _ h => h) (Or.inr ⟨by rfl, rfl⟩) ?_ ?_; rotate_left; (focus simp only [pt, i64_w, i32_w]; rfl)
                  refine pure_ (i := 16) (N := some 28) (v := undef) (a' := ?_) impl_MapOK.m17 rfl rfl (any_of HT_.out (by kernel_rfl)) (fun _ _ _ h => h) (Or.inr ⟨by rfl, rfl⟩) ?_ ?_; rotate_left; (focus simp only [pt, i64_w, i32_w]; rfl)
                  refine pure_ (i := 17) (N := some 29) (v := undef) (a' := ?_) impl_MapOK.m18 rfl rfl (any_of HT_.out (by kernel_rfl)) (fun _ _ _ h => h) (Or.inr ⟨by rfl, rfl⟩) ?_ ?_; rotate_left; (focus simp only [pt, i64_w, i32_w]; rfl)
                  refine pure_ (i := 18) (N := some 30) (v := undef) (a' := ?_) impl_MapOK.m19 rfl rfl (any_of HT_.out (by kernel_rfl)) (fun _ _ _ h => h) (Or.inr ⟨by rfl, rfl⟩) ?_ ?_; rotate_left; (focus simp only [pt, i64_w, i32_w]; rfl)
                  refine pure_ (i := 19) (N := some 31) (v := undef) (a' := ?_) impl_MapOK.m26 rfl rfl (any_of HT_.out (by kernel_rfl)) (fun _ _ _ h => h) (Or.inr ⟨by rfl, rfl⟩) ?_ ?_; rotate_left; (focus simp only [pt, i64_w, i32_w]; rfl)
                  refine pure_ (i := 20) (N := some 32) (v := undef) (a' := ?_) impl_MapOK.m21 rfl rfl (any_of HT_.out (by kernel_rfl)) (fun _ _ _ h => h) (Or.inr ⟨by rfl, rfl⟩) ?_ ?_; rotate_left; (focus simp only [pt, i64_w, i32_w]; rfl)
                  refine pure_ (i := 21) (N := some 33) (v := undef) (a' := ?_) impl_MapOK.m22 rfl rfl (any_of HT_.out (by kernel_rfl)) (fun _ _ _ h => h) (Or.inr ⟨by rfl, rfl⟩) ?_ ?_; rotate_left; (focus simp only [pt, i64_w, i32_w]; rfl)
                  refine pure_ (i := 22) (N := some 34) (v := undef) (a' := ?_) impl_MapOK.m23 rfl rfl (any_of HT_.out (by kernel_rfl)) (fun _ _ _ h => h) (Or.inr ⟨by rfl, rfl⟩) ?_ ?_; rotate_left; (focus simp only [pt, i64_w, i32_w]; rfl)
                  refine pure_ (i := 23) (N := some 35) (v := ?_) (a' := ?_) impl_MapOK.m24 rfl rfl (any_of HT_.out (by kernel_rfl)) (fun _ _ _ h => h) (Or.inl ⟨by rfl, ?_⟩) ?_ ?_; rotate_left; (focus intro w'; go_simp; with_reducible rfl); rotate_left; (focus simp only [pt, i64_w, i32_w]; rfl)
                  refine pure_ (i := 24) (N := some 36) (v := ?_) (a' := ?_) impl_MapOK.m25 rfl rfl (any_of HT_.out (by kernel_rfl)) (fun _ _ _ h => h) (Or.inl ⟨by rfl, ?_⟩) ?_ ?_; rotate_left; (focus intro w'; go_simp; with_reducible rfl); rotate_left; (focus simp only [pt, i64_w, i32_w]; rfl)
                  refine done_ (done_of HT_.out (by kernel_rfl)) ?_
                  try go_wp2
                  go_roundg k1
                  case measure => have := HK1.out; omega
                  case rel => exact ⟨(wrap64 (x7_1 + 1)), vE, H', ⟨by have := HK1.out; omega⟩, ⟨bW⟩⟩
              · replace c8 := Bool.eq_false_iff.mpr c8
                subst c8
                have H1 : (some false) = some r := by rw [if_neg (show ¬ (false = true) by decide)] at H; exact H
                clear H
                have H := H1
                clear H1
                obtain rfl := Option.some.inj H
                have p157 : 0 ≤ (x7_1 : Int) := odt
                have q157 : x7_1 < (l0.length : Int) := odt
                obtain ⟨ad157, e157, hx157_0, hx157_1⟩ := at_T51 HR0.out x7_1 p157 q157
                cases e157
                replace hx157_0 := (HB.out.cell (World.block_lt_of_cell? w _ hx157_0)).trans hx157_0
                replace hx157_1 := (HB.out.cell (World.block_lt_of_cell? w _ hx157_1)).trans hx157_1
                replace p157 := eq_true p157
                replace q157 := eq_true q157
                try go_wp2_with (first | ((with_reducible refine gate_dst (N := 4) rfl ?_); refine bE (N := 4) (cs := #[.string (⟨#[]⟩ : ByteArray), .int .i64 0]) (t := 51) ?_; intro gb158 hg w29 hbox hb; have n0_ := Aside0.mk (below_step (w := w) bW hb); have n1_ := Aside0.mk (hbox); have n2_ := Aside0.mk (gS (w := w) hg); have n3_ := n2_; clear HB; have HB := n0_; have BK158 := n1_; have GW158 := n2_; have GE158 := n3_; clear n0_ n1_ n2_ n3_; clear hb hbox hg; obtain ⟨hcz30_0, hcz30_1⟩ := cz2 BK158; obtain ⟨hfz30_0, hfz30_1⟩ := fz2 BK158))
                have n0_ : Aside0 (((w29.setCell ⟨gb158, 0, none⟩ (.string ((rd_T51 l0 x7_1).f0))).setCell ⟨gb158, 1, none⟩ (.int .i64 ((rd_T51 l0 x7_1).f1))).heap[gb158]? = some (.cells #[.string ((rd_T51 l0 x7_1).f0), .int .i64 ((rd_T51 l0 x7_1).f1)] 51 (0, 0))) := ⟨by (with_reducible repeat (first | refine blk_drewN ?_ _ | refine blk_drew ?_ | refine blk_alloc ?_ _)); refine blk_put (cs := #[.string ((rd_T51 l0 x7_1).f0), .int .i64 0]) ?_ 1 _ rfl; (with_reducible repeat (first | refine blk_drewN ?_ _ | refine blk_drew ?_ | refine blk_alloc ?_ _)); refine blk_put (cs := #[.string (⟨#[]⟩ : ByteArray), .int .i64 0]) ?_ 0 _ rfl; (with_reducible repeat (first | refine blk_drewN ?_ _ | refine blk_drew ?_ | refine blk_alloc ?_ _)); exact BK158.out⟩
                have n1_ : Aside0 (Below w.heap.size w ((w29.setCell ⟨gb158, 0, none⟩ (.string ((rd_T51 l0 x7_1).f0))).setCell ⟨gb158, 1, none⟩ (.int .i64 ((rd_T51 l0 x7_1).f1)))) := ⟨bW⟩
                (try clear BK158)
                (try clear HB)
                generalize ((w29.setCell ⟨gb158, 0, none⟩ (.string ((rd_T51 l0 x7_1).f0))).setCell ⟨gb158, 1, none⟩ (.int .i64 ((rd_T51 l0 x7_1).f1))) = w31 at n0_ n1_ ⊢
                have BK158 := n0_
                have HB := n1_
                clear n0_ n1_
                have n0_ := Aside0.mk (blk_drew BK158.out)
                have n1_ := Aside0.mk (below_drew1 HB.out)
                clear BK158
                clear HB
                have BK158 := n0_
                have HB := n1_
                clear n0_ n1_
                refine start_ (n := 25) (S := fun w' => w'.cell? ⟨gb158, 0, none⟩ = some (.string ((rd_T51 l0 x7_1).f0)) ∧ w'.cell? ⟨gb158, 1, none⟩ = some (.int .i64 ((rd_T51 l0 x7_1).f1))) (ds := []) impl_MapOK.m0 (by kernel_rfl) rfl rfl ⟨(blk_cell BK158.out 0).trans rfl, (blk_cell BK158.out 1).trans rfl⟩ (fun hHeld => ?_); refine with_tabW impl_MapOK.tab4 impl_MapOK.bits4 (fun HT_ HW_ => ?_)
                generalize w31.drew = w32 at BK158 HB hHeld ⊢
                refine pure_ (i := 0) (N := some 12) (v := ?_) (a' := ?_) impl_MapOK.m1 rfl rfl (any_of HT_.out (by kernel_rfl)) (fun _ _ _ h => h) (Or.inl ⟨by rfl, ?_⟩) ?_ ?_; rotate_left; (focus intro w'; go_simp; with_reducible rfl); rotate_left; (focus simp only [pt, i64_w, i32_w]; rfl)
                refine take_ (i := 1) (N := some 13) (v := ?_) (a' := ?_) impl_MapOK.m2 rfl rfl (take_ofW HT_.out HW_.out (by kernel_rfl)) (fun _ _ _ h => h) (Or.inl ⟨by rfl, ?_⟩) hHeld ?_ ?_; rotate_left; (focus rintro w' ⟨s0, s1⟩; go_simp; with_reducible rfl); rotate_left; (focus simp only [pt, i64_w, i32_w]; rfl)
                refine one_ (i := 2) (N := some 14) impl_MapOK.m3 rfl rfl (one_of HT_.out (by kernel_rfl)) (by decide) (fun K hK => ?_)
                refine goes_ Try.func110 (by kernel_rfl) rfl #[.string ((rd_T51 l0 x7_1).f0)] (by rfl) rfl rfl gA ?_
                with_reducible refine (impl_NameOK.calls ((rd_T51 l0 x7_1).f0) true _ A5.out).mono ?_
                rintro e w33 ⟨rfl, hb⟩
                refine ⟨_, rfl, ?_⟩
                have n0_ := Aside0.mk (kb BK158 hb)
                have n1_ := Aside0.mk (below_step (w := w) bW hb)
                clear BK158
                clear HB
                have BK158 := n0_
                have HB := n1_
                clear n0_ n1_
                (try clear hb)
                (try clear hb2)
                (try clear hk)
                (try clear hi)
                refine hK.out _ _ ⟨(blk_cell BK158.out 0).trans rfl, (blk_cell BK158.out 1).trans rfl⟩ (fun hHeld => ?_)
                clear hK K
                refine norm_ (a' := ?_) ?_ ?_
                rotate_left
                · show Act.put _ (some 14) _ = _
                  simp only [Act.put, List.setIfInBounds_toArray, List.set_cons_zero, List.set_cons_succ, i64_w, i32_w]
                  rfl
                refine pure_ (i := 3) (N := some 15) (v := ?_) (a' := ?_) impl_MapOK.m4 rfl rfl (any_of HT_.out (by kernel_rfl)) (fun _ _ _ h => h) (Or.inl ⟨by rfl, ?_⟩) ?_ ?_; rotate_left; (focus intro w'; go_simp; with_reducible rfl); rotate_left; (focus simp only [pt, i64_w, i32_w]; rfl)
                refine pure_ (i := 4) (N := some 16) (v := ?_) (a' := ?_) impl_MapOK.m5 rfl rfl (any_of HT_.out (by kernel_rfl)) (fun _ _ _ h => h) (Or.inl ⟨by rfl, ?_⟩) ?_ ?_; rotate_left; (focus intro w'; go_simp; with_reducible rfl); rotate_left; (focus simp only [pt, i64_w, i32_w]; rfl)
                refine pure_ (i := 5) (N := some 17) (v := ?_) (a' := ?_) impl_MapOK.m6 rfl rfl (any_of HT_.out (by kernel_rfl)) (fun _ _ _ h => h) (Or.inl ⟨by rfl, ?_⟩) ?_ ?_; rotate_left; (focus intro w'; go_simp; with_reducible rfl); rotate_left; (focus simp only [pt, i64_w, i32_w]; rfl)
                refine take_ (i := 6) (N := some 18) (v := ?_) (a' := ?_) impl_MapOK.m7 rfl rfl (take_ofW HT_.out HW_.out (by kernel_rfl)) (fun _ _ _ h => h) (Or.inl ⟨by rfl, ?_⟩) hHeld ?_ ?_; rotate_left; (focus rintro w' ⟨s0, s1⟩; go_simp; with_reducible rfl); rotate_left; (focus simp only [pt, i64_w, i32_w]; rfl)
                refine one_ (i := 7) (N := some 19) impl_MapOK.m8 rfl rfl (one_of HT_.out (by kernel_rfl)) (by decide) (fun K hK => ?_)
                refine goes_ Try.func86 (by kernel_rfl) rfl #[.int .i64 ((rd_T51 l0 x7_1).f1)] (by rfl) rfl rfl gA ?_
                with_reducible refine (impl_isValue.calls ((rd_T51 l0 x7_1).f1) false _ A7.out).mono ?_
                rintro e w' ⟨rfl, ⟨nd, rfl⟩⟩
                refine ⟨_, rfl, ?_⟩
                refine hK.out _ _ ⟨(blk_cell BK158.out 0).trans rfl, (blk_cell BK158.out 1).trans rfl⟩ (fun hHeld => ?_)
                clear hK K
                refine norm_ (a' := ?_) ?_ ?_
                rotate_left
                · show Act.put _ (some 19) _ = _
                  simp only [Act.put, List.setIfInBounds_toArray, List.set_cons_zero, List.set_cons_succ, i64_w, i32_w]
                  rfl
                refine pure_ (i := 8) (N := some 20) (v := ?_) (a' := ?_) impl_MapOK.m9 rfl rfl (any_of HT_.out (by kernel_rfl)) (fun _ _ _ h => h) (Or.inl ⟨by rfl, ?_⟩) ?_ ?_; rotate_left; (focus intro w'; go_simp; with_reducible rfl); rotate_left; (focus simp only [pt, i64_w, i32_w]; rfl)
                refine pure_ (i := 9) (N := some 21) (v := ?_) (a' := ?_) impl_MapOK.m10 rfl rfl (any_of HT_.out (by kernel_rfl)) (fun _ _ _ h => h) (Or.inl ⟨by rfl, ?_⟩) ?_ ?_; rotate_left; (focus intro w'; go_simp; with_reducible rfl); rotate_left; (focus simp only [pt, i64_w, i32_w]; rfl)
                refine pure_ (i := 10) (N := some 22) (v := ?_) (a' := ?_) impl_MapOK.m11 rfl rfl (any_of HT_.out (by kernel_rfl)) (fun _ _ _ h => h) (Or.inl ⟨by rfl, ?_⟩) ?_ ?_; rotate_left; (focus intro w'; go_simp; with_reducible rfl); rotate_left; (focus simp only [pt, i64_w, i32_w]; rfl)
                refine pure_ (i := 11) (N := some 23) (v := undef) (a' := ?_) impl_MapOK.m12 rfl rfl (any_of HT_.out (by kernel_rfl)) (fun _ _ _ h => h) (Or.inr ⟨by rfl, rfl⟩) ?_ ?_; rotate_left; (focus simp only [pt, i64_w, i32_w]; rfl)
                refine pure_ (i := 12) (N := some 24) (v := undef) (a' := ?_) impl_MapOK.m13 rfl rfl (any_of HT_.out (by kernel_rfl)) (fun _ _ _ h => h) (Or.inr ⟨by rfl, rfl⟩) ?_ ?_; rotate_left; (focus simp only [pt, i64_w, i32_w]; rfl)
                refine pure_ (i := 13) (N := some 25) (v := undef) (a' := ?_) impl_MapOK.m14 rfl rfl (any_of HT_.out (by kernel_rfl)) (fun _ _ _ h => h) (Or.inr ⟨by rfl, rfl⟩) ?_ ?_; rotate_left; (focus simp only [pt, i64_w, i32_w]; rfl)
                refine pure_ (i := 14) (N := some 26) (v := undef) (a' := ?_) impl_MapOK.m15 rfl rfl (any_of HT_.out (by kernel_rfl)) (fun _ _ _ h => h) (Or.inr ⟨by rfl, rfl⟩) ?_ ?_; rotate_left; (focus simp only [pt, i64_w, i32_w]; rfl)
                refine pure_ (i := 15) (N := some 27) (v := undef) (a' := ?_) impl_MapOK.m16 rfl rfl (any_of HT_.out (by kernel_rfl)) (fun _ _ _ h => h) (Or.inr ⟨by rfl, rfl⟩) ?_ ?_; rotate_left; (focus simp only [pt, i64_w, i32_w]; rfl)
                refine pure_ (i := 16) (N := some 28) (v := undef) (a' := ?_) impl_MapOK.m17 rfl rfl (any_of HT_.out (by kernel_rfl)) (fun _ _ _ h => h) (Or.inr ⟨by rfl, rfl⟩) ?_ ?_; rotate_left; (focus simp only [pt, i64_w, i32_w]; rfl)
                refine pure_ (i := 17) (N := some 29) (v := undef) (a' := ?_) impl_MapOK.m18 rfl rfl (any_of HT_.out (by kernel_rfl)) (fun _ _ _ h => h) (Or.inr ⟨by rfl, rfl⟩) ?_ ?_; rotate_left; (focus simp only [pt, i64_w, i32_w]; rfl)
                refine pure_ (i := 18) (N := some 30) (v := undef) (a' := ?_) impl_MapOK.m19 rfl rfl (any_of HT_.out (by kernel_rfl)) (fun _ _ _ h => h) (Or.inr ⟨by rfl, rfl⟩) ?_ ?_; rotate_left; (focus simp only [pt, i64_w, i32_w]; rfl)
                refine pure_ (i := 19) (N := some 31) (v := undef) (a' := ?_) impl_MapOK.m26 rfl rfl (any_of HT_.out (by kernel_rfl)) (fun _ _ _ h => h) (Or.inr ⟨by rfl, rfl⟩) ?_ ?_; rotate_left; (focus simp only [pt, i64_w, i32_w]; rfl)
                refine pure_ (i := 20) (N := some 32) (v := undef) (a' := ?_) impl_MapOK.m21 rfl rfl (any_of HT_.out (by kernel_rfl)) (fun _ _ _ h => h) (Or.inr ⟨by rfl, rfl⟩) ?_ ?_; rotate_left; (focus simp only [pt, i64_w, i32_w]; rfl)
                refine pure_ (i := 21) (N := some 33) (v := undef) (a' := ?_) impl_MapOK.m22 rfl rfl (any_of HT_.out (by kernel_rfl)) (fun _ _ _ h => h) (Or.inr ⟨by rfl, rfl⟩) ?_ ?_; rotate_left; (focus simp only [pt, i64_w, i32_w]; rfl)
                refine pure_ (i := 22) (N := some 34) (v := undef) (a' := ?_) impl_MapOK.m23 rfl rfl (any_of HT_.out (by kernel_rfl)) (fun _ _ _ h => h) (Or.inr ⟨by rfl, rfl⟩) ?_ ?_; rotate_left; (focus simp only [pt, i64_w, i32_w]; rfl)
                refine pure_ (i := 23) (N := some 35) (v := undef) (a' := ?_) impl_MapOK.m24 rfl rfl (any_of HT_.out (by kernel_rfl)) (fun _ _ _ h => h) (Or.inr ⟨by rfl, rfl⟩) ?_ ?_; rotate_left; (focus simp only [pt, i64_w, i32_w]; rfl)
                refine pure_ (i := 24) (N := some 36) (v := ?_) (a' := ?_) impl_MapOK.m25 rfl rfl (any_of HT_.out (by kernel_rfl)) (fun _ _ _ h => h) (Or.inl ⟨by rfl, ?_⟩) ?_ ?_; rotate_left; (focus intro w'; go_simp; with_reducible rfl); rotate_left; (focus simp only [pt, i64_w, i32_w]; rfl)
                refine done_ (done_of HT_.out (by kernel_rfl)) ?_
                try go_wp2
                go_ret
                exact ⟨rE, bW⟩
            · replace c6 := Bool.eq_false_iff.mpr c6
              subst c6
              have H1 : (some false) = some r := by rw [if_neg (show ¬ (false = true) by decide)] at H; exact H
              clear H
              have H := H1
              clear H1
              obtain rfl := Option.some.inj H
              have p157 : 0 ≤ (x7_1 : Int) := odt
              have q157 : x7_1 < (l0.length : Int) := odt
              obtain ⟨ad157, e157, hx157_0, hx157_1⟩ := at_T51 HR0.out x7_1 p157 q157
              cases e157
              replace hx157_0 := (HB.out.cell (World.block_lt_of_cell? w _ hx157_0)).trans hx157_0
              replace hx157_1 := (HB.out.cell (World.block_lt_of_cell? w _ hx157_1)).trans hx157_1
              replace p157 := eq_true p157
              replace q157 := eq_true q157
              try go_wp2_with (first | ((with_reducible refine gate_dst (N := 4) rfl ?_); refine bE (N := 4) (cs := #[.string (⟨#[]⟩ : ByteArray), .int .i64 0]) (t := 51) ?_; intro gb158 hg w34 hbox hb; have n0_ := Aside0.mk (below_step (w := w) bW hb); have n1_ := Aside0.mk (hbox); have n2_ := Aside0.mk (gS (w := w) hg); have n3_ := n2_; clear HB; have HB := n0_; have BK158 := n1_; have GW158 := n2_; have GE158 := n3_; clear n0_ n1_ n2_ n3_; clear hb hbox hg; obtain ⟨hcz35_0, hcz35_1⟩ := cz2 BK158; obtain ⟨hfz35_0, hfz35_1⟩ := fz2 BK158))
              have n0_ : Aside0 (((w34.setCell ⟨gb158, 0, none⟩ (.string ((rd_T51 l0 x7_1).f0))).setCell ⟨gb158, 1, none⟩ (.int .i64 ((rd_T51 l0 x7_1).f1))).heap[gb158]? = some (.cells #[.string ((rd_T51 l0 x7_1).f0), .int .i64 ((rd_T51 l0 x7_1).f1)] 51 (0, 0))) := ⟨by (with_reducible repeat (first | refine blk_drewN ?_ _ | refine blk_drew ?_ | refine blk_alloc ?_ _)); refine blk_put (cs := #[.string ((rd_T51 l0 x7_1).f0), .int .i64 0]) ?_ 1 _ rfl; (with_reducible repeat (first | refine blk_drewN ?_ _ | refine blk_drew ?_ | refine blk_alloc ?_ _)); refine blk_put (cs := #[.string (⟨#[]⟩ : ByteArray), .int .i64 0]) ?_ 0 _ rfl; (with_reducible repeat (first | refine blk_drewN ?_ _ | refine blk_drew ?_ | refine blk_alloc ?_ _)); exact BK158.out⟩
              have n1_ : Aside0 (Below w.heap.size w ((w34.setCell ⟨gb158, 0, none⟩ (.string ((rd_T51 l0 x7_1).f0))).setCell ⟨gb158, 1, none⟩ (.int .i64 ((rd_T51 l0 x7_1).f1)))) := ⟨bW⟩
              (try clear BK158)
              (try clear HB)
              generalize ((w34.setCell ⟨gb158, 0, none⟩ (.string ((rd_T51 l0 x7_1).f0))).setCell ⟨gb158, 1, none⟩ (.int .i64 ((rd_T51 l0 x7_1).f1))) = w36 at n0_ n1_ ⊢
              have BK158 := n0_
              have HB := n1_
              clear n0_ n1_
              have n0_ := Aside0.mk (blk_drew BK158.out)
              have n1_ := Aside0.mk (below_drew1 HB.out)
              clear BK158
              clear HB
              have BK158 := n0_
              have HB := n1_
              clear n0_ n1_
              refine start_ (n := 25) (S := fun w' => w'.cell? ⟨gb158, 0, none⟩ = some (.string ((rd_T51 l0 x7_1).f0)) ∧ w'.cell? ⟨gb158, 1, none⟩ = some (.int .i64 ((rd_T51 l0 x7_1).f1))) (ds := []) impl_MapOK.m0 (by kernel_rfl) rfl rfl ⟨(blk_cell BK158.out 0).trans rfl, (blk_cell BK158.out 1).trans rfl⟩ (fun hHeld => ?_); refine with_tabW impl_MapOK.tab4 impl_MapOK.bits4 (fun HT_ HW_ => ?_)
              generalize w36.drew = w37 at BK158 HB hHeld ⊢
              refine pure_ (i := 0) (N := some 12) (v := ?_) (a' := ?_) impl_MapOK.m1 rfl rfl (any_of HT_.out (by kernel_rfl)) (fun _ _ _ h => h) (Or.inl ⟨by rfl, ?_⟩) ?_ ?_; rotate_left; (focus intro w'; go_simp; with_reducible rfl); rotate_left; (focus simp only [pt, i64_w, i32_w]; rfl)
              refine take_ (i := 1) (N := some 13) (v := ?_) (a' := ?_) impl_MapOK.m2 rfl rfl (take_ofW HT_.out HW_.out (by kernel_rfl)) (fun _ _ _ h => h) (Or.inl ⟨by rfl, ?_⟩) hHeld ?_ ?_; rotate_left; (focus rintro w' ⟨s0, s1⟩; go_simp; with_reducible rfl); rotate_left; (focus simp only [pt, i64_w, i32_w]; rfl)
              refine one_ (i := 2) (N := some 14) impl_MapOK.m3 rfl rfl (one_of HT_.out (by kernel_rfl)) (by decide) (fun K hK => ?_)
              refine goes_ Try.func110 (by kernel_rfl) rfl #[.string ((rd_T51 l0 x7_1).f0)] (by rfl) rfl rfl gA ?_
              with_reducible refine (impl_NameOK.calls ((rd_T51 l0 x7_1).f0) false _ A5.out).mono ?_
              rintro e w38 ⟨rfl, hb⟩
              refine ⟨_, rfl, ?_⟩
              have n0_ := Aside0.mk (kb BK158 hb)
              have n1_ := Aside0.mk (below_step (w := w) bW hb)
              clear BK158
              clear HB
              have BK158 := n0_
              have HB := n1_
              clear n0_ n1_
              (try clear hb)
              (try clear hb2)
              (try clear hk)
              (try clear hi)
              refine hK.out _ _ ⟨(blk_cell BK158.out 0).trans rfl, (blk_cell BK158.out 1).trans rfl⟩ (fun hHeld => ?_)
              clear hK K
              refine norm_ (a' := ?_) ?_ ?_
              rotate_left
              · show Act.put _ (some 14) _ = _
                simp only [Act.put, List.setIfInBounds_toArray, List.set_cons_zero, List.set_cons_succ, i64_w, i32_w]
                rfl
              refine pure_ (i := 3) (N := some 15) (v := ?_) (a' := ?_) impl_MapOK.m4 rfl rfl (any_of HT_.out (by kernel_rfl)) (fun _ _ _ h => h) (Or.inl ⟨by rfl, ?_⟩) ?_ ?_; rotate_left; (focus intro w'; go_simp; with_reducible rfl); rotate_left; (focus simp only [pt, i64_w, i32_w]; rfl)
              refine pure_ (i := 4) (N := some 16) (v := ?_) (a' := ?_) impl_MapOK.m5 rfl rfl (any_of HT_.out (by kernel_rfl)) (fun _ _ _ h => h) (Or.inl ⟨by rfl, ?_⟩) ?_ ?_; rotate_left; (focus intro w'; go_simp; with_reducible rfl); rotate_left; (focus simp only [pt, i64_w, i32_w]; rfl)
              refine pure_ (i := 5) (N := some 17) (v := undef) (a' := ?_) impl_MapOK.m6 rfl rfl (any_of HT_.out (by kernel_rfl)) (fun _ _ _ h => h) (Or.inr ⟨by rfl, rfl⟩) ?_ ?_; rotate_left; (focus simp only [pt, i64_w, i32_w]; rfl)
              refine pure_ (i := 6) (N := some 18) (v := undef) (a' := ?_) impl_MapOK.m7 rfl rfl (any_of HT_.out (by kernel_rfl)) (fun _ _ _ h => h) (Or.inr ⟨by rfl, rfl⟩) ?_ ?_; rotate_left; (focus simp only [pt, i64_w, i32_w]; rfl)
              refine pure_ (i := 7) (N := some 19) (v := undef) (a' := ?_) impl_MapOK.m8 rfl rfl (any_of HT_.out (by kernel_rfl)) (fun _ _ _ h => h) (Or.inr ⟨by rfl, rfl⟩) ?_ ?_; rotate_left; (focus simp only [pt, i64_w, i32_w]; rfl)
              refine pure_ (i := 8) (N := some 20) (v := undef) (a' := ?_) impl_MapOK.m9 rfl rfl (any_of HT_.out (by kernel_rfl)) (fun _ _ _ h => h) (Or.inr ⟨by rfl, rfl⟩) ?_ ?_; rotate_left; (focus simp only [pt, i64_w, i32_w]; rfl)
              refine pure_ (i := 9) (N := some 21) (v := ?_) (a' := ?_) impl_MapOK.m10 rfl rfl (any_of HT_.out (by kernel_rfl)) (fun _ _ _ h => h) (Or.inl ⟨by rfl, ?_⟩) ?_ ?_; rotate_left; (focus intro w'; go_simp; with_reducible rfl); rotate_left; (focus simp only [pt, i64_w, i32_w]; rfl)
              refine pure_ (i := 10) (N := some 22) (v := ?_) (a' := ?_) impl_MapOK.m11 rfl rfl (any_of HT_.out (by kernel_rfl)) (fun _ _ _ h => h) (Or.inl ⟨by rfl, ?_⟩) ?_ ?_; rotate_left; (focus intro w'; go_simp; with_reducible rfl); rotate_left; (focus simp only [pt, i64_w, i32_w]; rfl)
              refine pure_ (i := 11) (N := some 23) (v := undef) (a' := ?_) impl_MapOK.m12 rfl rfl (any_of HT_.out (by kernel_rfl)) (fun _ _ _ h => h) (Or.inr ⟨by rfl, rfl⟩) ?_ ?_; rotate_left; (focus simp only [pt, i64_w, i32_w]; rfl)
              refine pure_ (i := 12) (N := some 24) (v := undef) (a' := ?_) impl_MapOK.m13 rfl rfl (any_of HT_.out (by kernel_rfl)) (fun _ _ _ h => h) (Or.inr ⟨by rfl, rfl⟩) ?_ ?_; rotate_left; (focus simp only [pt, i64_w, i32_w]; rfl)
              refine pure_ (i := 13) (N := some 25) (v := undef) (a' := ?_) impl_MapOK.m14 rfl rfl (any_of HT_.out (by kernel_rfl)) (fun _ _ _ h => h) (Or.inr ⟨by rfl, rfl⟩) ?_ ?_; rotate_left; (focus simp only [pt, i64_w, i32_w]; rfl)
              refine pure_ (i := 14) (N := some 26) (v := undef) (a' := ?_) impl_MapOK.m15 rfl rfl (any_of HT_.out (by kernel_rfl)) (fun _ _ _ h => h) (Or.inr ⟨by rfl, rfl⟩) ?_ ?_; rotate_left; (focus simp only [pt, i64_w, i32_w]; rfl)
              refine pure_ (i := 15) (N := some 27) (v := undef) (a' := ?_) impl_MapOK.m16 rfl rfl (any_of HT_.out (by kernel_rfl)) (fun _ _ _ h => h) (Or.inr ⟨by rfl, rfl⟩) ?_ ?_; rotate_left; (focus simp only [pt, i64_w, i32_w]; rfl)
              refine pure_ (i := 16) (N := some 28) (v := undef) (a' := ?_) impl_MapOK.m17 rfl rfl (any_of HT_.out (by kernel_rfl)) (fun _ _ _ h => h) (Or.inr ⟨by rfl, rfl⟩) ?_ ?_; rotate_left; (focus simp only [pt, i64_w, i32_w]; rfl)
              refine pure_ (i := 17) (N := some 29) (v := undef) (a' := ?_) impl_MapOK.m18 rfl rfl (any_of HT_.out (by kernel_rfl)) (fun _ _ _ h => h) (Or.inr ⟨by rfl, rfl⟩) ?_ ?_; rotate_left; (focus simp only [pt, i64_w, i32_w]; rfl)
              refine pure_ (i := 18) (N := some 30) (v := undef) (a' := ?_) impl_MapOK.m19 rfl rfl (any_of HT_.out (by kernel_rfl)) (fun _ _ _ h => h) (Or.inr ⟨by rfl, rfl⟩) ?_ ?_; rotate_left; (focus simp only [pt, i64_w, i32_w]; rfl)
              refine pure_ (i := 19) (N := some 31) (v := undef) (a' := ?_) impl_MapOK.m26 rfl rfl (any_of HT_.out (by kernel_rfl)) (fun _ _ _ h => h) (Or.inr ⟨by rfl, rfl⟩) ?_ ?_; rotate_left; (focus simp only [pt, i64_w, i32_w]; rfl)
              refine pure_ (i := 20) (N := some 32) (v := undef) (a' := ?_) impl_MapOK.m21 rfl rfl (any_of HT_.out (by kernel_rfl)) (fun _ _ _ h => h) (Or.inr ⟨by rfl, rfl⟩) ?_ ?_; rotate_left; (focus simp only [pt, i64_w, i32_w]; rfl)
              refine pure_ (i := 21) (N := some 33) (v := undef) (a' := ?_) impl_MapOK.m22 rfl rfl (any_of HT_.out (by kernel_rfl)) (fun _ _ _ h => h) (Or.inr ⟨by rfl, rfl⟩) ?_ ?_; rotate_left; (focus simp only [pt, i64_w, i32_w]; rfl)
              refine pure_ (i := 22) (N := some 34) (v := undef) (a' := ?_) impl_MapOK.m23 rfl rfl (any_of HT_.out (by kernel_rfl)) (fun _ _ _ h => h) (Or.inr ⟨by rfl, rfl⟩) ?_ ?_; rotate_left; (focus simp only [pt, i64_w, i32_w]; rfl)
              refine pure_ (i := 23) (N := some 35) (v := undef) (a' := ?_) impl_MapOK.m24 rfl rfl (any_of HT_.out (by kernel_rfl)) (fun _ _ _ h => h) (Or.inr ⟨by rfl, rfl⟩) ?_ ?_; rotate_left; (focus simp only [pt, i64_w, i32_w]; rfl)
              refine pure_ (i := 24) (N := some 36) (v := ?_) (a' := ?_) impl_MapOK.m25 rfl rfl (any_of HT_.out (by kernel_rfl)) (fun _ _ _ h => h) (Or.inl ⟨by rfl, ?_⟩) ?_ ?_; rotate_left; (focus intro w'; go_simp; with_reducible rfl); rotate_left; (focus simp only [pt, i64_w, i32_w]; rfl)
              refine done_ (done_of HT_.out (by kernel_rfl)) ?_
              try go_wp2
              go_ret
              exact ⟨rE, bW⟩
          · rw [if_neg c4] at H
            exact absurd H (by simp)
        · rw [if_neg c3] at H
          exact absurd H (by simp)
      · rw [if_neg c2] at H
        have c2b0 : decide (x7_1 < (l0.length : Int)) = false := decide_eq_false c2
        clear c2
        obtain rfl := Option.some.inj H
        go_wp2
        go_ret
        exact ⟨rE, bW⟩
end Go.Proofs.Ytcpljigliklgcaa.Q
end

section
namespace Go.Proofs.Ytcpljigliklgcaa.Q
open Go.RowKit Go.Proofs.YtcpljigliklgcaaW.PrintWords Go.Proofs.YtcpljigliklgcaaW.PrintLast Go.Proofs.YtcpljigliklgcaaW.PrintMore
attribute [local go_sem] max2_int min2_int max_two min_two max_three min_three max_four min_four   -- for this text's walks alone
set_option linter.unusedVariables false
set_option linter.unusedSimpArgs false
attribute [local go_sem] bin_leq bin_gtr bin_geq
def impl_Entry_100.f (l0 : List (S51)) : Option (Bool) := some (decide ((l0.length : Int) ≤ 4096))
set_option maxHeartbeats 8000000 in
set_option maxRecDepth 100000 in
theorem impl_Entry_100.calls (A0 : Option Addr) (c0 : Nat) (l0 : List (S51)) (r : Bool) (w : World) (hr0 : Kd.C k51 w A0 l0.length l0) (hc0 : l0.length ≤ c0) (h : impl_Entry_100.f l0 = some r) :
    Calls Try.prog 100 #[.slice A0 l0.length c0] w fun e w' => e = .returned (.bool r) ∧ Drawn0 w w' := by
  have HR0 := Aside0.mk hr0
  have HC0 := Aside0.mk hc0
  clear hr0 hc0
  have H : (some (decide ((l0.length : Int) ≤ 4096))) = some r := h
  clear h
  obtain rfl := Option.some.inj H
  go_enter Try.func100, Try.ntmps100
  go_wp2
  go_ret
  exact ⟨by first | rfl | (simp; done) | (simp [*]; done), by repeat (first | exact Drawn0.refl _ | apply Drawn0.step)⟩
end Go.Proofs.Ytcpljigliklgcaa.Q
end

section
namespace Go.Proofs.Ytcpljigliklgcaa.Q
open Go.RowKit Go.Proofs.YtcpljigliklgcaaW.PrintWords Go.Proofs.YtcpljigliklgcaaW.PrintLast Go.Proofs.YtcpljigliklgcaaW.PrintMore
attribute [local go_sem] max2_int min2_int max_two min_two max_three min_three max_four min_four   -- for this text's walks alone
set_option linter.unusedVariables false
set_option linter.unusedSimpArgs false
attribute [local go_sem] bin_leq bin_gtr bin_geq
def impl_isText.f (a0 : ByteArray) : Option (Bool) := some (decide ((a0.size : Int) ≤ 65536))
set_option maxHeartbeats 8000000 in
set_option maxRecDepth 100000 in
theorem impl_isText.calls (a0 : ByteArray) (r : Bool) (w : World) (h : impl_isText.f a0 = some r) :
    Calls Try.prog 104 #[.string a0] w fun e w' => e = .returned (.bool r) ∧ Drawn0 w w' := by
  have H : (some (decide ((a0.size : Int) ≤ 65536))) = some r := h
  clear h
  obtain rfl := Option.some.inj H
  go_enter Try.func104, Try.ntmps104
  go_wp2
  go_ret
  exact ⟨by first | rfl | (simp; done) | (simp [*]; done), by repeat (first | exact Drawn0.refl _ | apply Drawn0.step)⟩
end Go.Proofs.Ytcpljigliklgcaa.Q
end

section
namespace Go.Proofs.Ytcpljigliklgcaa.Q
open Go.RowKit Go.Proofs.YtcpljigliklgcaaW.PrintWords Go.Proofs.YtcpljigliklgcaaW.PrintLast Go.Proofs.YtcpljigliklgcaaW.PrintMore
attribute [local go_sem] max2_int min2_int max_two min_two max_three min_three max_four min_four   -- for this text's walks alone
set_option linter.unusedVariables false
set_option linter.unusedSimpArgs false
attribute [local go_sem] bin_leq bin_gtr bin_geq
def impl_keyCode.j0 : Nat → List (S51) → ByteArray → Bool → Option (Int)
  | 0, _, _, _ => none
  | k + 1, x0, x1, x5 => if x5 = true then (some 2) else ((impl_MapOK.f k x0).bind fun t164 => (if t164 = true then ((impl_NameOK.f x1).bind fun t165 => (if t165 = true then (some 0) else (some 1))) else (some 1)))
def impl_keyCode.f (k : Nat) (l0 : List (S51)) (a1 : ByteArray) : Option (Int) := (impl_Entry_100.f l0).bind fun t162 => (if t162 = true then ((impl_isText.f a1).bind fun t163 => (impl_keyCode.j0 k l0 a1 (!t163))) else (impl_keyCode.j0 k l0 a1 true))
set_option maxHeartbeats 8000000 in
set_option maxRecDepth 100000 in
theorem impl_keyCode.calls (k : Nat) (A0 : Option Addr) (c0 : Nat) (l0 : List (S51)) (a1 : ByteArray) (r : Int) (w : World) (hr0 : Kd.C k51 w A0 l0.length l0) (hc0 : l0.length ≤ c0) (h : impl_keyCode.f k l0 a1 = some r) :
    Calls Try.prog 85 #[.slice A0 l0.length c0, .string a1] w fun e w' => e = .returned (.int .i64 r) ∧ Below w.heap.size w w' := by
  have HR0 := Aside0.mk hr0
  have HC0 := Aside0.mk hc0
  clear hr0 hc0
  have HB := Aside0.mk (Below.refl w.heap.size w)
  have H : ((impl_Entry_100.f l0).bind fun t162 => (if t162 = true then ((impl_isText.f a1).bind fun t163 => (impl_keyCode.j0 k l0 a1 (!t163))) else (impl_keyCode.j0 k l0 a1 true))) = some r := h
  clear h
  have HC3 := Aside0.mk H
  clear H
  go_enter Try.func85, Try.ntmps85
  go_upto_region 1 with (fail)
  go_cut [5] (fun v5 wc => ∃ (kq : Nat) (x5_2 : Bool), v5 = .bool x5_2 ∧ Aside0 (impl_keyCode.j0 kq l0 a1 x5_2 = some r) ∧ Aside0 (kq ≤ k) ∧ Aside0 (Below w.heap.size w wc))
  case first =>
    have H := HC3.out
    clear HC3
    replace H := Option.bind_eq_some_iff.mp H
    obtain ⟨t162, A40, H⟩ := H
    replace H : (if t162 = true then ((impl_isText.f a1).bind fun t163 => (impl_keyCode.j0 k l0 a1 (!t163))) else (impl_keyCode.j0 k l0 a1 true)) = some r := H
    have A4 := Aside0.mk A40
    clear A40
    by_cases c5 : t162 = true
    · subst c5
      have H1 : ((impl_isText.f a1).bind fun t163 => (impl_keyCode.j0 k l0 a1 (!t163))) = some r := by rw [if_pos rfl] at H; exact H
      clear H
      have H := H1
      clear H1
      replace H := Option.bind_eq_some_iff.mp H
      obtain ⟨t163, A60, H⟩ := H
      replace H : (impl_keyCode.j0 k l0 a1 (!t163)) = some r := H
      have A6 := Aside0.mk A60
      clear A60
      have H' := Aside0.mk H
      clear H
      go_wp2_with (first | ((with_reducible refine gate_callee (f := 100) rfl ?_); refine goesL_ (some 7) rfl rfl Try.func100 (by kernel_rfl) rfl #[.slice A0 l0.length c0] rfl gA ?_; (with_reducible refine (impl_Entry_100.calls _ _ l0 true _ ?side1 ?side2 A4.out).mono ?_); (case side1 => exact cB HR0); (case side2 => exact HC0.out); rintro e w' ⟨rfl, ⟨nd, rfl⟩⟩; refine ⟨_, rfl, ?_⟩) | (go_at_call 104; (with_reducible refine (impl_isText.calls a1 t163 _ A6.out).mono ?_); rintro e w' ⟨rfl, ⟨nd, rfl⟩⟩))
      go_meet
      case rel => exact ⟨_, (!t163), vE, H', ⟨by first | omega | exact Nat.le_refl _⟩, ⟨bW⟩⟩
    · replace c5 := Bool.eq_false_iff.mpr c5
      subst c5
      have H1 : (impl_keyCode.j0 k l0 a1 true) = some r := by rw [if_neg (show ¬ (false = true) by decide)] at H; exact H
      clear H
      have H := H1
      clear H1
      have H' := Aside0.mk H
      clear H
      go_wp2_with (first | ((with_reducible refine gate_callee (f := 100) rfl ?_); refine goesL_ (some 7) rfl rfl Try.func100 (by kernel_rfl) rfl #[.slice A0 l0.length c0] rfl gA ?_; (with_reducible refine (impl_Entry_100.calls _ _ l0 false _ ?side1 ?side2 A4.out).mono ?_); (case side1 => exact cB HR0); (case side2 => exact HC0.out); rintro e w' ⟨rfl, ⟨nd, rfl⟩⟩; refine ⟨_, rfl, ?_⟩))
      go_meet
      case rel => exact ⟨_, (true), vE, H', ⟨by first | omega | exact Nat.le_refl _⟩, ⟨bW⟩⟩
  case rest =>
    clear HC3
    try clear c1
    try clear p2
    try clear c5
    obtain ⟨kq, x5_2, rfl, HA, HJ2, HB⟩ := hcut
    cases kq with
    | zero => exact absurd HA.out (by simp [impl_keyCode.j0])
    | succ kj2 =>
      have H := HA.out
      clear HA
      simp only [impl_keyCode.j0] at H
      by_cases c7 : x5_2 = true
      · subst c7
        have H1 : (some 2) = some r := by rw [if_pos rfl] at H; exact H
        clear H
        have H := H1
        clear H1
        obtain rfl := Option.some.inj H
        go_wp2
        go_ret
        exact ⟨rE, bW⟩
      · replace c7 := Bool.eq_false_iff.mpr c7
        subst c7
        have H1 : ((impl_MapOK.f kj2 l0).bind fun t164 => (if t164 = true then ((impl_NameOK.f a1).bind fun t165 => (if t165 = true then (some 0) else (some 1))) else (some 1))) = some r := by rw [if_neg (show ¬ (false = true) by decide)] at H; exact H
        clear H
        have H := H1
        clear H1
        replace H := Option.bind_eq_some_iff.mp H
        obtain ⟨t164, A80, H⟩ := H
        replace H : (if t164 = true then ((impl_NameOK.f a1).bind fun t165 => (if t165 = true then (some 0) else (some 1))) else (some 1)) = some r := H
        have A8 := Aside0.mk A80
        clear A80
        by_cases c9 : t164 = true
        · subst c9
          have H1 : ((impl_NameOK.f a1).bind fun t165 => (if t165 = true then (some 0) else (some 1))) = some r := by rw [if_pos rfl] at H; exact H
          clear H
          have H := H1
          clear H1
          replace H := Option.bind_eq_some_iff.mp H
          obtain ⟨t165, A100, H⟩ := H
          replace H : (if t165 = true then (some 0) else (some 1)) = some r := H
          have A10 := Aside0.mk A100
          clear A100
          by_cases c11 : t165 = true
          · subst c11
            have H1 : (some 0) = some r := by rw [if_pos rfl] at H; exact H
            clear H
            have H := H1
            clear H1
            obtain rfl := Option.some.inj H
            go_wp2_with (first | ((with_reducible refine gate_callee (f := 37) rfl ?_); refine goesL_ (some 16) rfl rfl Try.func37 (by kernel_rfl) rfl #[.slice A0 l0.length c0] rfl gA ?_; (with_reducible refine (impl_MapOK.calls kj2 _ _ l0 true _ ?side1 ?side2 A8.out).mono ?_); (case side1 => exact cB HR0); (case side2 => exact HC0.out); rintro e w12 ⟨rfl, hb⟩; refine ⟨_, rfl, ?_⟩; have n0_ := Aside0.mk (below_step (w := w) bW hb); clear HB; have HB := n0_; clear n0_; (try clear hb); (try clear hb2); (try clear hk); (try clear hi)) | (go_at_call 110; (with_reducible refine (impl_NameOK.calls a1 true _ A10.out).mono ?_); rintro e w13 ⟨rfl, hb⟩; have n0_ := Aside0.mk (below_step (w := w) bW hb); clear HB; have HB := n0_; clear n0_; (try clear hb); (try clear hb2); (try clear hk); (try clear hi)))
            go_ret
            exact ⟨rE, bW⟩
          · replace c11 := Bool.eq_false_iff.mpr c11
            subst c11
            have H1 : (some 1) = some r := by rw [if_neg (show ¬ (false = true) by decide)] at H; exact H
            clear H
            have H := H1
            clear H1
            obtain rfl := Option.some.inj H
            go_wp2_with (first | ((with_reducible refine gate_callee (f := 37) rfl ?_); refine goesL_ (some 16) rfl rfl Try.func37 (by kernel_rfl) rfl #[.slice A0 l0.length c0] rfl gA ?_; (with_reducible refine (impl_MapOK.calls kj2 _ _ l0 true _ ?side1 ?side2 A8.out).mono ?_); (case side1 => exact cB HR0); (case side2 => exact HC0.out); rintro e w14 ⟨rfl, hb⟩; refine ⟨_, rfl, ?_⟩; have n0_ := Aside0.mk (below_step (w := w) bW hb); clear HB; have HB := n0_; clear n0_; (try clear hb); (try clear hb2); (try clear hk); (try clear hi)) | (go_at_call 110; (with_reducible refine (impl_NameOK.calls a1 false _ A10.out).mono ?_); rintro e w15 ⟨rfl, hb⟩; have n0_ := Aside0.mk (below_step (w := w) bW hb); clear HB; have HB := n0_; clear n0_; (try clear hb); (try clear hb2); (try clear hk); (try clear hi)))
            go_ret
            exact ⟨rE, bW⟩
        · replace c9 := Bool.eq_false_iff.mpr c9
          subst c9
          have H1 : (some 1) = some r := by rw [if_neg (show ¬ (false = true) by decide)] at H; exact H
          clear H
          have H := H1
          clear H1
          obtain rfl := Option.some.inj H
          go_wp2_with (first | ((with_reducible refine gate_callee (f := 37) rfl ?_); refine goesL_ (some 16) rfl rfl Try.func37 (by kernel_rfl) rfl #[.slice A0 l0.length c0] rfl gA ?_; (with_reducible refine (impl_MapOK.calls kj2 _ _ l0 false _ ?side1 ?side2 A8.out).mono ?_); (case side1 => exact cB HR0); (case side2 => exact HC0.out); rintro e w16 ⟨rfl, hb⟩; refine ⟨_, rfl, ?_⟩; have n0_ := Aside0.mk (below_step (w := w) bW hb); clear HB; have HB := n0_; clear n0_; (try clear hb); (try clear hb2); (try clear hk); (try clear hi)))
          go_ret
          exact ⟨rE, bW⟩
end Go.Proofs.Ytcpljigliklgcaa.Q
end

section
namespace Go.Proofs.Ytcpljigliklgcaa.Q
open Go.RowKit Go.Proofs.YtcpljigliklgcaaW.PrintWords Go.Proofs.YtcpljigliklgcaaW.PrintLast Go.Proofs.YtcpljigliklgcaaW.PrintMore
attribute [local go_sem] max2_int min2_int max_two min_two max_three min_three max_four min_four   -- for this text's walks alone
set_option linter.unusedVariables false
set_option linter.unusedSimpArgs false
attribute [local go_sem] bin_leq bin_gtr bin_geq
theorem cmp_lt : ∀ (a b : List UInt8), (Lib.compareBytes a b < 0) ↔ Op.bytesLess a b = true
  | [], [] => by simp [Lib.compareBytes, Op.bytesLess]
  | [], _ :: _ => by simp [Lib.compareBytes, Op.bytesLess]
  | _ :: _, [] => by simp [Lib.compareBytes, Op.bytesLess]
  | a :: ra, b :: rb => by
    have ih := cmp_lt ra rb
    unfold Lib.compareBytes
    by_cases h1 : a < b
    · simp [h1, Op.bytesLess]
    · by_cases h2 : b < a
      · have h3 : ¬ a = b := by rintro rfl; exact h1 h2
        simp [h1, h2, h3, Op.bytesLess]
      · have h3 : a = b := UInt8.le_antisymm (UInt8.not_lt.mp h2) (UInt8.not_lt.mp h1)
        subst h3
        simp [h1, Op.bytesLess, ih]
theorem cmp_eq : ∀ (a b : List UInt8), (Lib.compareBytes a b = 0) ↔ a = b
  | [], [] => by simp [Lib.compareBytes]
  | [], _ :: _ => by simp [Lib.compareBytes]
  | _ :: _, [] => by simp [Lib.compareBytes]
  | a :: ra, b :: rb => by
    have ih := cmp_eq ra rb
    unfold Lib.compareBytes
    by_cases h1 : a < b
    · have h3 : ¬ a = b := by rintro rfl; exact absurd h1 (UInt8.lt_irrefl _)
      simp [h1, h3]
    · by_cases h2 : b < a
      · have h3 : ¬ a = b := by rintro rfl; exact h1 h2
        simp [h1, h2, h3]
      · have h3 : a = b := UInt8.le_antisymm (UInt8.not_lt.mp h2) (UInt8.not_lt.mp h1)
        subst h3
        simp [h1, ih]
def cmpB (a b : ByteArray) : Int := Lib.compareBytes a.data.toList b.data.toList
end Go.Proofs.Ytcpljigliklgcaa.Q
end

section
namespace Go.Proofs.Ytcpljigliklgcaa.Q
open Go.RowKit Go.Proofs.YtcpljigliklgcaaW.PrintWords Go.Proofs.YtcpljigliklgcaaW.PrintLast Go.Proofs.YtcpljigliklgcaaW.PrintMore
attribute [local go_sem] max2_int min2_int max_two min_two max_three min_three max_four min_four   -- for this text's walks alone
set_option linter.unusedVariables false
set_option linter.unusedSimpArgs false
attribute [local go_sem] bin_leq bin_gtr bin_geq
def bytealg_CompareString.f (a0 : ByteArray) (a1 : ByteArray) : Option (Int) := some (cmpB a0 a1)
set_option maxHeartbeats 1000000 in
set_option maxRecDepth 100000 in
theorem bytealg_CompareString.calls (a0 : ByteArray) (a1 : ByteArray) (r : Int) (w : World) (h : bytealg_CompareString.f a0 a1 = some r) :
    Calls Try.prog 234 #[.string a0, .string a1] w fun e w' => e = .returned (.int .i64 r) ∧ Drawn0 w w' := by
  obtain rfl := Option.some.inj h
  clear h
  go_enter Try.func234, Try.ntmps234
  go_wp2
  rw [run_callFunc_extern Try.func254 (by kernel_rfl) (by kernel_rfl) (by kernel_rfl) (e := Extern.BytealgCompare.compare) (by kernel_rfl), Lib.run_compareString]
  simp only [Result.andThen]
  rw [Oper.upon_value]
  go_wp2
  go_ret
  exact ⟨rfl, Drawn0.refl _⟩
end Go.Proofs.Ytcpljigliklgcaa.Q
end

section
namespace Go.Proofs.Ytcpljigliklgcaa.Q
open Go.RowKit Go.Proofs.YtcpljigliklgcaaW.PrintWords Go.Proofs.YtcpljigliklgcaaW.PrintLast Go.Proofs.YtcpljigliklgcaaW.PrintMore
attribute [local go_sem] max2_int min2_int max_two min_two max_three min_three max_four min_four   -- for this text's walks alone
set_option linter.unusedVariables false
set_option linter.unusedSimpArgs false
attribute [local go_sem] bin_leq bin_gtr bin_geq
def strings_Compare.f (a0 : ByteArray) (a1 : ByteArray) : Option (Int) := (bytealg_CompareString.f a0 a1).bind fun t166 => (some t166)
set_option maxHeartbeats 8000000 in
set_option maxRecDepth 100000 in
theorem strings_Compare.calls (a0 : ByteArray) (a1 : ByteArray) (r : Int) (w : World) (h : strings_Compare.f a0 a1 = some r) :
    Calls Try.prog 174 #[.string a0, .string a1] w fun e w' => e = .returned (.int .i64 r) ∧ Drawn0 w w' := by
  have H : ((bytealg_CompareString.f a0 a1).bind fun t166 => (some t166)) = some r := h
  clear h
  replace H := Option.bind_eq_some_iff.mp H
  obtain ⟨t166, A30, H⟩ := H
  replace H : (some t166) = some r := H
  have A3 := Aside0.mk A30
  clear A30
  obtain rfl := Option.some.inj H
  go_enter Try.func174, Try.ntmps174
  go_wp2_with (first | ((with_reducible refine gate_callee (f := 234) rfl ?_); refine goesL_ (some 7) rfl rfl Try.func234 (by kernel_rfl) rfl #[.string a0, .string a1] rfl gA ?_; (with_reducible refine (bytealg_CompareString.calls a0 a1 t166 _ A3.out).mono ?_); rintro e w' ⟨rfl, ⟨nd, rfl⟩⟩; refine ⟨_, rfl, ?_⟩))
  go_ret
  exact ⟨by first | rfl | (simp; done) | (simp [*]; done), by repeat (first | exact Drawn0.refl _ | apply Drawn0.step)⟩
end Go.Proofs.Ytcpljigliklgcaa.Q
end

section
namespace Go.Proofs.Ytcpljigliklgcaa.Q
open Go.RowKit Go.Proofs.YtcpljigliklgcaaW.PrintWords Go.Proofs.YtcpljigliklgcaaW.PrintLast Go.Proofs.YtcpljigliklgcaaW.PrintMore
attribute [local go_sem] max2_int min2_int max_two min_two max_three min_three max_four min_four   -- for this text's walks alone
set_option linter.unusedVariables false
set_option linter.unusedSimpArgs false
attribute [local go_sem] bin_leq bin_gtr bin_geq
def Cmps_Entry (g : Nat) (lb : Array Value) (tv : Value) (c : S51 → Int) (w : World) (l : List S51) : Prop :=
  ∀ (W : World) (x : S51), Below w.heap.size w W → x ∈ l → Calls Try.prog g (#[.agg #[.string x.f0, .int .i64 x.f1], tv] ++ lb) W fun e w' => e = .returned (.int .i64 (c x)) ∧ Below W.heap.size W w'
def cntN (c : S51 → Int) (l : List S51) : Nat := l.countP (fun x => decide (c x < 0))
def fndB (c : S51 → Int) (l : List S51) : Bool := match l[cntN c l]? with | some x => c x == 0 | none => false
theorem cntN_is {c : S51 → Int} : ∀ (l : List S51) (i : Nat), i ≤ l.length → (∀ t (ht : t < l.length), t < i → c l[t] < 0) → (∀ t (ht : t < l.length), i ≤ t → 0 ≤ c l[t]) → cntN c l = i
  | [], i, hi, _, _ => by
    have : i = 0 := by simpa using hi
    rw [this]; rfl
  | a :: r, 0, _, _, h2 => by
    unfold cntN
    rw [List.countP_eq_zero]
    intro x hx
    obtain ⟨t, ht, rfl⟩ := List.getElem_of_mem hx
    have := h2 t ht (Nat.zero_le _)
    simp; omega
  | a :: r, i + 1, hi, h1, h2 => by
    have ha : decide (c a < 0) = true := decide_eq_true (h1 0 (by simp) (by omega))
    have ih := cntN_is r i (by simpa using hi) (fun t ht h => h1 (t + 1) (by simp; omega) (by omega)) (fun t ht h => h2 (t + 1) (by simp; omega) (by omega))
    unfold cntN at ih ⊢
    rw [List.countP_cons_of_pos (p := fun x => decide (c x < 0)) ha, ih]
set_option maxHeartbeats 4000000 in
set_option maxRecDepth 1000000 in
theorem bsF_Entry (g : Nat) (lb : Array Value) (eg : ∀ args w, (callFunc g args).run Try.prog w = .ok (.enter g args) w) (tv : Value) (c : S51 → Int) (A0 : Option Addr) (c0 : Nat) (l0 : List S51) (w : World) (hr0 : Kd.C k51 w A0 l0.length l0) (hc0 : l0.length ≤ c0) (hp : Cmps_Entry g lb tv c w l0)
    (hsz : l0.length < 4611686018427387904) (hmono : ∀ a b (hb : b < l0.length) (hab : a ≤ b), c l0[b] < 0 → c (l0[a]'(by omega)) < 0) :
    Calls Try.prog 172 #[.slice A0 l0.length c0, tv, .func (.func g) #[] lb] w fun e w' => e = .returned (.tuple #[.int .i64 (cntN c l0 : Nat), .bool (fndB c l0)]) ∧ Below w.heap.size w w' := by
  have HR0 := Aside0.mk hr0
  have HP := Aside0.mk hp
  have M := Aside0.mk hmono
  clear hr0 hc0 hp hmono
  go_enter Try.func172, Try.ntmps172
  go_wp2
  go_loopg [9, 10] l0.length (fun kx s9 s10 w' => ∃ lo hi : Nat, s9 = .int .i64 lo ∧ s10 = .int .i64 hi ∧ lo ≤ hi ∧ hi ≤ l0.length ∧ hi - lo ≤ kx ∧ Aside0 (Below w.heap.size w w') ∧
    Aside0 ((∀ t (ht : t < l0.length), t < lo → c l0[t] < 0) ∧ (∀ t (ht : t < l0.length), hi ≤ t → 0 ≤ c l0[t])))
  case atStart => exact ⟨0, l0.length, rfl, rfl, Nat.zero_le _, Nat.le_refl _, by omega, ⟨Below.refl _ _⟩, ⟨⟨fun t ht h => absurd h (Nat.not_lt_zero _), fun t ht h => by omega⟩⟩⟩
  case round =>
    obtain ⟨lo, hi, rfl, rfl, hlh, hin, hg, HB, I⟩ := hrel
    by_cases hlt : lo < hi
    · have HRW := Aside0.mk (Kd.C_below HR0.out HB.out)
      have hm : (lo + hi) / 2 < l0.length := by omega
      have p0 : (0 : Int) ≤ ((lo : Int) + (hi : Int)) / 2 := by omega
      have p1 : ((lo : Int) + (hi : Int)) / 2 < (l0.length : Int) := by omega
      have em : (((lo : Int) + (hi : Int)) / 2).toNat = (lo + hi) / 2 := by omega
      obtain ⟨ad, e1, hx0, hx1⟩ := at_T51 HRW.out (((lo : Int) + (hi : Int)) / 2) p0 p1
      cases e1
      have ex : rd_T51 l0 (((lo : Int) + (hi : Int)) / 2) = l0[(lo + hi) / 2] := by unfold rd_T51; rw [em]; simp [List.getD_eq_getElem?_getD, List.getElem?_eq_getElem hm]
      rw [ex, em] at hx0 hx1
      have hcall := HP.out _ l0[(lo + hi) / 2] HB.out (List.getElem_mem hm)
      obtain ⟨y, hy⟩ : ∃ y, y = l0[(lo + hi) / 2] := ⟨_, rfl⟩
      rw [← hy] at hx0 hx1 hcall
      have HY := Aside0.mk hy
      clear hy ex em
      have HC := Aside0.mk hcall
      clear hcall
      by_cases hyx : c y < 0
      · go_wp2_with ((with_reducible refine HC.out.mono ?_); rintro e w' ⟨rfl, hb'⟩)
        go_roundg (hi - ((lo + hi) / 2 + 1))
        case measure => omega
        case rel =>
          refine ⟨(lo + hi) / 2 + 1, hi, by go_num, rfl, by omega, hin, Nat.le_refl _, ⟨below_then HB.out HB.out.size hb'⟩, ⟨⟨fun t ht h => ?_, I.out.2⟩⟩⟩
          exact M.out t ((lo + hi) / 2) hm (by omega) (by rw [← HY.out]; exact hyx)
      · have hyx' : 0 ≤ c y := by omega
        go_wp2_with ((with_reducible refine HC.out.mono ?_); rintro e w' ⟨rfl, hb'⟩)
        go_roundg ((lo + hi) / 2 - lo)
        case measure => omega
        case rel =>
          refine ⟨lo, (lo + hi) / 2, rfl, by go_num, by omega, by omega, Nat.le_refl _, ⟨below_then HB.out HB.out.size hb'⟩, ⟨⟨I.out.1, fun t ht h => ?_⟩⟩⟩
          rcases Int.lt_or_le (c l0[t]) 0 with h3 | h3
          · have := M.out ((lo + hi) / 2) t ht h h3
            rw [← HY.out] at this
            omega
          · exact h3
    · obtain rfl : lo = hi := by omega
      have CN := Aside0.mk (cntN_is l0 lo hin I.out.1 I.out.2)
      by_cases hlen : lo < l0.length
      · have HRW := Aside0.mk (Kd.C_below HR0.out HB.out)
        have p1 : (lo : Int) < (l0.length : Int) := by omega
        have p0 : (0 : Int) ≤ (lo : Int) := by omega
        obtain ⟨ad, e1, hx0, hx1⟩ := at_T51 HRW.out (lo : Int) p0 p1
        cases e1
        have ex : rd_T51 l0 (lo : Int) = l0[lo] := by simp [rd_T51, List.getD_eq_getElem?_getD, List.getElem?_eq_getElem hlen]
        rw [ex] at hx0 hx1
        simp only [Int.toNat_natCast] at hx0 hx1
        have hcall := HP.out _ l0[lo] HB.out (List.getElem_mem hlen)
        have FN := Aside0.mk (show fndB c l0 = (c l0[lo] == 0) by unfold fndB; rw [CN.out, List.getElem?_eq_getElem hlen])
        obtain ⟨y, hy⟩ : ∃ y, y = l0[lo] := ⟨_, rfl⟩
        rw [← hy] at hx0 hx1 hcall
        have FN2 := Aside0.mk (show fndB c l0 = (c y == 0) by rw [FN.out, hy])
        clear hy ex FN
        have HC := Aside0.mk hcall
        clear hcall
        go_wp2_with ((with_reducible refine HC.out.mono ?_); rintro e w' ⟨rfl, hb'⟩)
        go_ret2
        exact ⟨by rw [CN.out, FN2.out]; rfl, below_then HB.out HB.out.size hb'⟩
      · obtain rfl : lo = l0.length := by omega
        have FN := Aside0.mk (show fndB c l0 = false by unfold fndB; rw [CN.out, List.getElem?_eq_none (Nat.le_refl _)])
        go_wp2
        go_ret2
        exact ⟨by rw [CN.out, FN.out]; rfl, HB.out⟩
end Go.Proofs.Ytcpljigliklgcaa.Q
end

section
namespace Go.Proofs.Ytcpljigliklgcaa.Q
open Go.RowKit Go.Proofs.YtcpljigliklgcaaW.PrintWords Go.Proofs.YtcpljigliklgcaaW.PrintLast Go.Proofs.YtcpljigliklgcaaW.PrintMore
attribute [local go_sem] max2_int min2_int max_two min_two max_three min_three max_four min_four   -- for this text's walks alone
set_option linter.unusedVariables false
set_option linter.unusedSimpArgs false
attribute [local go_sem] bin_leq bin_gtr bin_geq
def RiseP (l : List S51) : Prop := l.Pairwise (fun a b => sblt a.f0 b.f0 = true)
instance (l : List S51) : Decidable (RiseP l) := by unfold RiseP; infer_instance
def cmpK (k : ByteArray) (x : S51) : Int := cmpB x.f0 k
theorem cmpK_lt (k : ByteArray) (x : S51) : cmpK k x < 0 ↔ sblt x.f0 k = true := by
  unfold cmpK cmpB sblt
  rw [cmp_lt, ByteArray.toList_eq, ByteArray.toList_eq]
theorem cmpK_mono {l : List S51} (h : RiseP l) (k : ByteArray) : ∀ a b (hb : b < l.length) (hab : a ≤ b), cmpK k l[b] < 0 → cmpK k (l[a]'(by omega)) < 0 := by
  intro a b hb hab h1
  rw [cmpK_lt] at h1 ⊢
  rcases Nat.lt_or_eq_of_le hab with h2 | h2
  · exact sblt_trans (List.pairwise_iff_getElem.mp h a b (by omega) hb h2) h1
  · subst h2; exact h1
end Go.Proofs.Ytcpljigliklgcaa.Q
end

section
namespace Go.Proofs.Ytcpljigliklgcaa.Q
open Go.RowKit Go.Proofs.YtcpljigliklgcaaW.PrintWords Go.Proofs.YtcpljigliklgcaaW.PrintLast Go.Proofs.YtcpljigliklgcaaW.PrintMore
attribute [local go_sem] max2_int min2_int max_two min_two max_three min_three max_four min_four   -- for this text's walks alone
set_option linter.unusedVariables false
set_option linter.unusedSimpArgs false
attribute [local go_sem] bin_leq bin_gtr bin_geq
def bs_find.f (l0 : List (S51)) (a1 : ByteArray) : Option (Int × Bool) := if RiseP l0 then (if l0.length < 4611686018427387904 then some ((cntN (cmpK a1) l0 : Nat), fndB (cmpK a1) l0) else none) else none
theorem find_asks (k : ByteArray) (l : List S51) (w : World) : Cmps_Entry 173 #[] (.string k) (cmpK k) w l := by
  intro W x hW hx
  have HBA := Aside0.mk (show Below W.heap.size W (W.alloc (.cells #[.string x.f0, .int .i64 x.f1] 51)) from (Below.refl _ _).alloc (Nat.le_refl _) _)
  have A2 := Aside0.mk (show strings_Compare.f x.f0 k = some (cmpK k x) from rfl)
  clear hx hW
  go_enter Try.func173, Try.ntmps173
  go_wp2_with (go_at_call 174; (with_reducible refine (strings_Compare.calls _ _ _ _ A2.out).mono ?_); rintro e w' ⟨rfl, ⟨n, rfl⟩⟩)
  go_ret
  exact ⟨rfl, by repeat (first | exact HBA.out | apply pw_below_drewN)⟩
theorem bs_find.calls (A0 : Option Addr) (c0 : Nat) (l0 : List (S51)) (a1 : ByteArray) (r1 : Int) (r2 : Bool) (w : World) (hr0 : Kd.C k51 w A0 l0.length l0) (hc0 : l0.length ≤ c0) (h : bs_find.f l0 a1 = some (r1, r2)) :
    Calls Try.prog 172 #[.slice A0 l0.length c0, .string a1, .func (.func 173) #[] #[]] w fun e w' => e = .returned (.tuple #[.int .i64 r1, .bool r2]) ∧ Below w.heap.size w w' := by
  unfold bs_find.f at h
  by_cases h0 : RiseP l0
  · rw [if_pos h0] at h
    by_cases h1 : l0.length < 4611686018427387904
    · rw [if_pos h1] at h
      have e := Option.some.inj h
      obtain rfl : _ = r1 := congrArg Prod.fst e
      obtain rfl : _ = r2 := congrArg Prod.snd e
      exact bsF_Entry 173 #[] (enters_ Try.func173 (by kernel_rfl) rfl) (.string a1) (cmpK a1) A0 c0 l0 w hr0 hc0 (find_asks a1 l0 w) h1 (cmpK_mono h0 a1)
    · rw [if_neg h1] at h
      cases h
  · rw [if_neg h0] at h
    cases h
end Go.Proofs.Ytcpljigliklgcaa.Q
end

section
namespace Go.Proofs.Ytcpljigliklgcaa.Q
open Go.RowKit Go.Proofs.YtcpljigliklgcaaW.PrintWords Go.Proofs.YtcpljigliklgcaaW.PrintLast Go.Proofs.YtcpljigliklgcaaW.PrintMore
attribute [local go_sem] max2_int min2_int max_two min_two max_three min_three max_four min_four   -- for this text's walks alone
set_option linter.unusedVariables false
set_option linter.unusedSimpArgs false
attribute [local go_sem] bin_leq bin_gtr bin_geq
def impl_find.f (l0 : List (S51)) (a1 : ByteArray) : Option (Int × Bool) := (bs_find.f l0 a1).bind fun bt167 => (some (bt167.1, bt167.2))
set_option maxHeartbeats 8000000 in
set_option maxRecDepth 100000 in
theorem impl_find.calls (A0 : Option Addr) (c0 : Nat) (l0 : List (S51)) (a1 : ByteArray) (r1 : Int) (r2 : Bool) (w : World) (hr0 : Kd.C k51 w A0 l0.length l0) (hc0 : l0.length ≤ c0) (h : impl_find.f l0 a1 = some (r1, r2)) :
    Calls Try.prog 93 #[.slice A0 l0.length c0, .string a1] w fun e w' => e = .returned (.tuple #[.int .i64 r1, .bool r2]) ∧ Below w.heap.size w w' := by
  have HR0 := Aside0.mk hr0
  have HC0 := Aside0.mk hc0
  clear hr0 hc0
  have HB := Aside0.mk (Below.refl w.heap.size w)
  have H : ((bs_find.f l0 a1).bind fun bt167 => (some (bt167.1, bt167.2))) = some (r1, r2) := h
  clear h
  replace H := Option.bind_eq_some_iff.mp H
  obtain ⟨⟨t167, t168⟩, A30, H⟩ := H
  replace H : (some (t167, t168)) = some (r1, r2) := H
  have A3 := Aside0.mk A30
  clear A30
  simp only [Option.some.injEq, Prod.mk.injEq] at H
  obtain ⟨rfl, rfl⟩ := H
  go_enter Try.func93, Try.ntmps93
  go_wp2_with (first | ((with_reducible refine gate_callee (f := 172) rfl ?_); refine goesL_ (some 8) rfl rfl Try.func172 (by kernel_rfl) rfl #[.slice A0 l0.length c0, .string a1, .func (.func 173) #[] #[]] rfl gA ?_; (with_reducible refine (bs_find.calls _ _ l0 a1 t167 t168 _ ?side1 ?side2 A3.out).mono ?_); (case side1 => exact cN HR0); (case side2 => exact HC0.out); rintro e w4 ⟨rfl, hb⟩; refine ⟨_, rfl, ?_⟩; have n0_ := Aside0.mk (below_step (w := w) bW hb); clear HB; have HB := n0_; clear n0_; (try clear hb); (try clear hb2); (try clear hk); (try clear hi)))
  go_ret2
  exact ⟨rE, bW⟩
end Go.Proofs.Ytcpljigliklgcaa.Q
end

section
namespace Go.Proofs.Ytcpljigliklgcaa.Q
open Go.RowKit Go.Proofs.YtcpljigliklgcaaW.PrintWords Go.Proofs.YtcpljigliklgcaaW.PrintLast Go.Proofs.YtcpljigliklgcaaW.PrintMore
attribute [local go_sem] max2_int min2_int max_two min_two max_three min_three max_four min_four   -- for this text's walks alone
set_option linter.unusedVariables false
set_option linter.unusedSimpArgs false
attribute [local go_sem] bin_leq bin_gtr bin_geq
theorem eqnil_ {P : Program} (w : World) (t e : TypeId) (a : Option Addr) (n c : Nat) (h : P.underlying t = some (.slice e)) : (binOp .eql t (.slice a n c) (.slice none 0 0)).run P w = .ok (.bool a.isNone) w := Lib.run_eql_slice_nil w t e a n c 0 0 h
end Go.Proofs.Ytcpljigliklgcaa.Q
end

section
namespace Go.Proofs.Ytcpljigliklgcaa.Q
open Go.RowKit Go.Proofs.YtcpljigliklgcaaW.PrintWords Go.Proofs.YtcpljigliklgcaaW.PrintLast Go.Proofs.YtcpljigliklgcaaW.PrintMore
attribute [local go_sem] max2_int min2_int max_two min_two max_three min_three max_four min_four   -- for this text's walks alone
set_option linter.unusedVariables false
set_option linter.unusedSimpArgs false
attribute [local go_sem] bin_leq bin_gtr bin_geq
def impl_Entry_94.f (l0 : List (S51)) : Option ((List (S51))) := if l0.length < 5864062014805 then some l0 else none
set_option maxHeartbeats 8000000 in
set_option maxRecDepth 100000 in
theorem impl_Entry_94.calls (A0 : Option Addr) (c0 : Nat) (l0 : List (S51)) (r : List (S51)) (w : World) (hr0 : Kd.C k51 w A0 l0.length l0) (hc0 : l0.length ≤ c0) (h : impl_Entry_94.f l0 = some r) :
    Calls Try.prog 94 #[.slice A0 l0.length c0] w fun e w' => ∃ v0_ : Value, e = .returned (v0_) ∧ Kd.R k51 51 w' w.heap.size (fun _ => True) v0_ r ∧ Below w.heap.size w w' := by
  by_cases c5 : l0.length < 5864062014805
  · unfold impl_Entry_94.f at h
    rw [if_pos c5] at h
    obtain rfl := Option.some.inj h
    clear h
    cases A0 with
    | none =>
      have hz : l0 = [] := by
        rcases Nat.eq_zero_or_pos l0.length with h0 | h0
        · exact List.eq_nil_of_length_eq_zero h0
        · obtain ⟨ad, e, _⟩ := hr0.2.2 h0
          cases e
      subst hz
      clear hr0 c5
      have hq := fun w : World => eqnil_ (P := Try.prog) w 24 51 none 0 c0 Try.underlying24
      go_enter Try.func94, Try.ntmps94
      go_wp2
      go_ret
      exact ⟨_, rfl, Kd.R_nil _ _ _ _ _, Below.refl _ _⟩
    | some ad =>
      have HR0 := Aside0.mk hr0
      have HC0 := Aside0.mk hc0
      have LM := Aside0.mk c5
      clear hr0 hc0 c5
      have HB := Aside0.mk (Below.refl w.heap.size w)
      have hq := fun w : World => eqnil_ (P := Try.prog) w 24 51 (some ad) l0.length c0 Try.underlying24
      go_enter Try.func94, Try.ntmps94
      go_wp2_with (first | ((with_reducible refine gate_dst (N := 5) rfl ?_); refine Kd.R_lit k51 _ 51 ?hg (N := 5) ?hd (xs := ([] : List (S51))) (inner := []) (ok := fun _ => True) (okp := fun _ => True) ?hr ?hp (fun _ hk => hk) trivial (Below.refl _ _) (Nat.le_refl _) (by simp) ?_; (case hd => rfl); (case hg => rfl); (case hr => first | (go_simp; done) | (go_simp; rfl)); (case hp => exact (Reps.none _ _)); intro v881 w11 ho12 hb hg_ hnew_; clear hg_ hnew_; have n0_ := Aside0.mk (Kd.R_lower ho12 (below_size HB.out)); have n1_ := Aside0.mk (below_step HB.out hb); clear HB; have HO882 := n0_; have HB := n1_; clear n0_ n1_; clear hb ho12) | ((with_reducible refine gate_builtin (b := .append) (xs := #[.tmp 5, .tmp 6]) rfl ?_); at_builtin; refine Kd.R_append_rows k51 (w0 := w) w.heap.size rfl (.tmp 5) (.tmp 6) 24 51 (.agg #[(.string ⟨#[]⟩), (.int .i64 0)]) 24 rfl Try.underlying24 info51 rfl (by decide) (by omega) v881 [] l0 _ _ _ (fun _ => True) (fun _ => False) rfl rfl ?aO ?aR (fun _ _ h => h) (fun _ h => h.elim) ?aF ?aB ?aS ?aL ?_; (case aR => exact (Kd.C_below HR0.out HB.out)); (case aB => exact HB.out); (case aF => exact (fun _ _ => trivial)); (case aO => exact HO882.out); (case aS => exact (below_size HB.out)); (case aL => have := LM.out; simp only [List.length_nil]; omega); intro v884 w13 ho hb hg hat; rw [List.nil_append] at ho; have n0_ := Aside0.mk (hb); have n1_ := Aside0.mk (ho); clear HB; clear HO882; have HB := n0_; have HO885 := n1_; clear n0_ n1_; clear ho hb hg hat))
      go_ret
      exact ⟨_, rfl, HO885.out, HB.out⟩
  · unfold impl_Entry_94.f at h
    rw [if_neg c5] at h
    cases h
end Go.Proofs.Ytcpljigliklgcaa.Q
end

section
namespace Go.Proofs.Ytcpljigliklgcaa.Q
open Go Go.RowKit Go.Proofs.YtcpljigliklgcaaW.PrintWords Go.Proofs.YtcpljigliklgcaaW.PrintLast
set_option linter.unusedVariables false
set_option linter.unusedSimpArgs false
theorem setCells_setRow (g o : Nat) (t : TypeId) (vs : List Value) (cur : Array Value) (w : World) (hg : w.heap[g]? = some (.cells cur t (0, 0))) (hl : o + vs.length ≤ cur.size) :
    w.setCells g o vs = w.setRow g (cur.toList.take o ++ vs ++ cur.toList.drop (o + vs.length)).toArray := by
  induction vs generalizing o cur w with
  | nil =>
    simp only [World.setCells, List.append_nil, List.length_nil, Nat.add_zero, List.take_append_drop, Array.toArray_toList]
    rw [setRow_self w g cur t (0, 0) hg]
  | cons v rest ih =>
    have hi : o < cur.size := by simp at hl; omega
    rw [World.setCells, setCell_eq_setRow w g o cur t (0, 0) v hg, ih (o + 1) (cur.setIfInBounds o v) _ (setRow_heap w g cur _ t _ hg) (by simp at hl ⊢; omega), setRow_setRow]
    congr 2
    have e := list_seg_step cur.toList o v rest (by simp at hl ⊢; omega)
    simpa [Array.toList_setIfInBounds, Nat.add_assoc] using e
theorem run_clear_rowk {P : Program} (w : World) (t e ty : TypeId) (z : Value) (n : Nat) (ht : P.underlying t = some (.slice e)) (hv : ∀ w, (zeroValue e).run P w = .ok z w) (h1 : ∀ u ∈ (Builtin.zeroCells z.cells n).toList, u.oneCell' = true) (g o c : Nat) (cur : Array Value) (te : TypeId) (hn : 0 < n)
    (hg : w.heap[g]? = some (.cells cur te (0, 0))) (hl : o + (Builtin.zeroCells z.cells n).toList.length ≤ cur.size) :
    (Builtin.clear_ #[t] ty #[.slice (some ⟨g, o, none⟩) n c]).run P w = .ok (.tuple #[]) (w.setRow g (cur.toList.take o ++ (Builtin.zeroCells z.cells n).toList ++ cur.toList.drop (o + (Builtin.zeroCells z.cells n).toList.length)).toArray) := by
  have hst := run_storeCells_at P g o te (Builtin.zeroCells z.cells n).toList 0 cur w hg (by simpa using hl) h1
  simp only [Nat.add_zero] at hst
  obtain ⟨m, rfl⟩ : ∃ m, n = m + 1 := ⟨n - 1, by omega⟩
  simp [Builtin.clear_, run_underlying ht, hv, hst]
theorem run_copy_rowk {P : Program} (w : World) (dT sT ty elem : TypeId) (sz g o dLen dCap : Nat) (a : Addr) (sLen sCap m : Nat) (cur : Array Value) (t : TypeId) (cs : List Value)
    (hu : P.underlying dT = some (.slice elem)) (hs : (P.info? elem).map (·.size) = some sz)
    (hg : w.heap[g]? = some (.cells cur t (0, 0))) (hm : Nat.min sLen dLen = m) (hn : cs.length = m * sz)
    (hsrc : ∀ j v, cs[j]? = some v → w.cell? (a.add j) = some v) (hfit : o + cs.length ≤ cur.size) (h1 : ∀ v ∈ cs, v.oneCell' = true) :
    (Builtin.copy_ #[dT, sT] ty #[.slice (some ⟨g, o, none⟩) dLen dCap, .slice (some a) sLen sCap]).run P w =
      .ok (goInt m) (w.setRow g (cur.toList.take o ++ cs ++ cur.toList.drop (o + cs.length)).toArray) := by
  have hl := run_loadCells_list (P := P) w a cs hsrc
  have hst := run_storeCells_at P g o t cs 0 cur w hg (by simpa using hfit) h1
  cases hq : P.info? elem with
  | none => simp [hq] at hs
  | some i =>
    have hi : i.size = sz := by simpa [hq] using hs
    simp [Builtin.copy_, run_underlying hu, Builtin.lenOf, Builtin.firstCells, sizeOf, typeInfo, hq, hi, hm, ← hn, hl, hst]
section
variable {α : Type} {enc : α → List Value} {k : Nat}
theorem flat_len (hk : ∀ x, (enc x).length = k) : ∀ xs : List α, (xs.flatMap enc).length = xs.length * k
  | [] => by simp
  | x :: xs => by rw [List.flatMap_cons, List.length_append, hk, flat_len hk xs, List.length_cons, Nat.add_mul]; omega
theorem flat_take (hk : ∀ x, (enc x).length = k) : ∀ (xs : List α) (i : Nat), (xs.flatMap enc).take (i * k) = (xs.take i).flatMap enc
  | xs, 0 => by simp
  | [], i + 1 => by simp
  | x :: xs, i + 1 => by
    have e : (i + 1) * k = k + i * k := by rw [Nat.add_mul]; omega
    rw [List.flatMap_cons, List.take_succ_cons, List.flatMap_cons, ← flat_take hk xs i, e, List.take_append, hk]
    rw [List.take_of_length_le (by rw [hk]; omega), Nat.add_sub_cancel_left]
theorem flat_drop (hk : ∀ x, (enc x).length = k) : ∀ (xs : List α) (i : Nat), (xs.flatMap enc).drop (i * k) = (xs.drop i).flatMap enc
  | xs, 0 => by simp
  | [], i + 1 => by simp
  | x :: xs, i + 1 => by
    have e : (i + 1) * k = k + i * k := by rw [Nat.add_mul]; omega
    rw [List.flatMap_cons, List.drop_succ_cons, ← flat_drop hk xs i, e, List.drop_append, hk]
    rw [List.drop_eq_nil_of_le (by rw [hk]; omega), List.nil_append, Nat.add_sub_cancel_left]
theorem reps_flat (hk : ∀ x, (enc x).length = k) {xs : List α} {cs : List Value} (h : Reps (fun x c => c = enc x) k xs cs) : cs = xs.flatMap enc := by
  obtain ⟨hl, hr⟩ := h
  induction xs generalizing cs with
  | nil =>
    rw [List.length_nil, Nat.zero_mul] at hl
    rw [List.eq_nil_of_length_eq_zero hl]
    rfl
  | cons x xs ih =>
    have h0 := hr 0 x rfl
    rw [Nat.zero_mul, List.drop_zero] at h0
    have e : cs = cs.take k ++ cs.drop k := (List.take_append_drop k cs).symm
    rw [List.length_cons, Nat.add_mul, Nat.one_mul] at hl
    have h2 := ih (cs := cs.drop k) (by rw [List.length_drop, hl]; omega) (fun j p hj => by
      have h3 := hr (j + 1) p (by simpa using hj)
      rw [List.drop_drop]
      have e2 : k + j * k = (j + 1) * k := by rw [Nat.add_mul]; omega
      rw [e2]
      exact h3)
    rw [e, h0, h2, List.flatMap_cons]
theorem flat_reps (hk : ∀ x, (enc x).length = k) (xs : List α) : Reps (fun x c => c = enc x) k xs (xs.flatMap enc) := by
  refine ⟨flat_len hk xs, fun j p hj => ?_⟩
  obtain ⟨hj2, rfl⟩ := List.getElem?_eq_some_iff.mp hj
  rw [flat_drop hk, List.drop_eq_getElem_cons hj2, List.flatMap_cons, List.take_append, hk]
  rw [List.take_of_length_le (by rw [hk]; omega), Nat.sub_self, List.take_zero, List.append_nil]
variable {d : Kd α} {e base : Nat} {ok : Nat → Prop} {w : World} {v : Value} {xs : List α}
theorem flatR_open (hM : ∀ {w base ok x cs}, d.M w base ok x cs ↔ cs = enc x) (hk : ∀ x, (enc x).length = k) (hsz : d.sz = k) (h : Kd.R d e w base ok v xs) (hp : 0 < xs.length) :
    ∃ g cap cur, v = .slice (some ⟨g, 0, none⟩) xs.length cap ∧ base ≤ g ∧ ok g ∧ w.heap[g]? = some (.cells cur e (0, 0)) ∧ xs.length ≤ cap ∧ cap ≤ maxLen ∧ cur.size = cap * k ∧ cur.toList.take (xs.length * k) = xs.flatMap enc := by
  obtain ⟨h0, inner, ⟨hl, ho⟩, hr⟩ := h
  have e1 := reps_flat (k := d.sz) (fun x => (hk x).trans hsz.symm) (hr.imp_ (fun _ _ hp => hM.mp hp))
  rcases ho with ⟨rfl, hz⟩ | ⟨g, cap, cur, rfl, hb, hg, hn, hm, hs, ht⟩
  · omega
  · subst hsz
    exact ⟨g, cap, cur, rfl, hb, h0 g rfl, hg, hn, hm, hs, ht.trans e1⟩
theorem flatR_mk (hM : ∀ {w base ok x cs}, d.M w base ok x cs ↔ cs = enc x) (hk : ∀ x, (enc x).length = k) (hsz : d.sz = k) {g cap n : Nat} {cur : Array Value} (hn0 : n = xs.length) (hb : base ≤ g) (hok : ok g) (hg : w.heap[g]? = some (.cells cur e (0, 0))) (hn : n ≤ cap) (hm : cap ≤ maxLen) (hs : cur.size = cap * k) (ht : cur.toList.take (n * k) = xs.flatMap enc) :
    Kd.R d e w base ok (.slice (some ⟨g, 0, none⟩) n cap) xs := by
  subst hsz
  subst hn0
  exact ⟨fun j hj => by have : g = j := by simpa [Value.ownBlock] using hj
                        exact this ▸ hok, xs.flatMap enc, ⟨flat_len hk xs, .inr ⟨g, cap, cur, rfl, hb, hg, hn, hm, hs, ht⟩⟩, (flat_reps hk xs).imp_ (fun _ _ h => hM.mpr h)⟩
end
theorem wI {a b c : Nat} (h : a + b = c) (hc : c < 10000000) : IntKind.i64.wrap ((a : Int) + (b : Int)) = (c : Int) ∧ wrap64 ((a : Int) + (b : Int)) = (c : Int) := by
  subst h
  rw [IntKind.wrap_i64]
  unfold wrap64
  omega
theorem wS {a b c : Nat} (h : a = b + c) (hc : a < 10000000) : IntKind.i64.wrap ((a : Int) - (b : Int)) = (c : Int) ∧ wrap64 ((a : Int) - (b : Int)) = (c : Int) := by
  subst h
  rw [IntKind.wrap_i64]
  unfold wrap64
  omega
theorem row_shift {γ : Type} {cur cs e : List γ} {a b : Nat} (hb : b = a + e.length) (hc : b + cs.length ≤ cur.length) :
    (cur.take b ++ cs ++ cur.drop (b + cs.length)).take a ++ e ++ (cur.take b ++ cs ++ cur.drop (b + cs.length)).drop (a + e.length) = cur.take a ++ e ++ cs ++ cur.drop (b + cs.length) := by
  have h1 : (cur.take b).length = b := by rw [List.length_take]; omega
  rw [List.append_assoc (cur.take b), List.take_append_of_le_length (by rw [h1]; omega), List.take_take, Nat.min_eq_left (by omega), ← hb, List.drop_append, List.drop_eq_nil_of_le (by rw [h1]; omega), h1, Nat.sub_self, List.drop_zero, List.nil_append]
  simp only [List.append_assoc]
theorem row_two {γ : Type} {cur cs e : List γ} {a b : Nat} (hb : b = a + e.length) (hc : b + cs.length ≤ cur.length) :
    ((cur.take a ++ e ++ cur.drop (a + e.length)).take b ++ cs ++ (cur.take a ++ e ++ cur.drop (a + e.length)).drop (b + cs.length)).take (b + cs.length) = cur.take a ++ e ++ cs := by
  have h1 : (cur.take a ++ e).length = b := by rw [List.length_append, List.length_take]; omega
  have h2 : (cur.take a ++ e ++ cur.drop (a + e.length)).take b = cur.take a ++ e := by
    rw [List.take_append_of_le_length (by rw [h1]; omega), List.take_of_length_le (by rw [h1]; omega)]
  rw [h2, List.take_append_of_le_length (by rw [List.length_append, h1]; omega), List.take_of_length_le (by rw [List.length_append, h1]; omega)]
theorem kept_setRow {w W : World} {S : Nat → Prop} (h : Kept w W S) {g : Nat} (hg : S g ∨ w.heap.size ≤ g) (cs : Array Value) : Kept w (W.setRow g cs) S :=
  h.then_ (S2 := fun k => k = g) ⟨by simp, fun i _ hn => setRow_other W g i cs hn⟩ (fun k hk => by rw [hk]; exact hg)
def encE (x : S51) : List Value := [.string x.f0, .int .i64 x.f1]
theorem encE_len (x : S51) : (encE x).length = 2 := rfl
theorem entM {w : World} {base : Nat} {ok : Nat → Prop} {x : S51} {cs : List Value} : k51.M w base ok x cs ↔ cs = encE x :=
  ⟨fun h => k51_openM h, fun h => by rw [h]; exact k51_mkM w base ok x⟩
theorem zc1 : (Builtin.zeroCells (Value.agg #[.string ⟨#[]⟩, .int .i64 0]).cells 1).toList = [.string ⟨#[]⟩, .int .i64 0] := by
  simp [Builtin.zeroCells, Value.cells]
  try rfl
theorem one_flat (xs : List S51) : ∀ u ∈ xs.flatMap encE, u.oneCell' = true := by
  intro u hu
  obtain ⟨x, _, hx⟩ := List.mem_flatMap.mp hu
  simp only [encE, List.mem_cons, List.mem_nil_iff, or_false] at hx
  rcases hx with rfl | rfl <;> rfl
end Go.Proofs.Ytcpljigliklgcaa.Q
end

section
namespace Go.Proofs.Ytcpljigliklgcaa.Q
open Go.RowKit Go.Proofs.YtcpljigliklgcaaW.PrintWords Go.Proofs.YtcpljigliklgcaaW.PrintLast Go.Proofs.YtcpljigliklgcaaW.PrintMore
attribute [local go_sem] max2_int min2_int max_two min_two max_three min_three max_four min_four   -- for this text's walks alone
set_option linter.unusedVariables false
set_option linter.unusedSimpArgs false
attribute [local go_sem] bin_leq bin_gtr bin_geq
def impl_Entry_170.f (l0 : List S51) (a1 a2 : Int) : Option (List S51) := if 0 ≤ a1 then (if a2 = a1 + 1 then (if a1 < (l0.length : Int) then some (l0.take a1.toNat ++ l0.drop (a1.toNat + 1)) else none) else none) else none
set_option maxHeartbeats 8000000 in
set_option maxRecDepth 100000 in
theorem impl_Entry_170.calls (P0_ : Nat → Prop) (u9000_ : Value) (l0 : List (S51)) (a1 : Int) (a2 : Int) (r : List (S51)) (w0 w : World) (hB : Below w0.heap.size w0 w) (ho0 : Kd.R k51 51 w w0.heap.size P0_ u9000_ l0) (h : impl_Entry_170.f l0 a1 a2 = some r) :
    Calls Try.prog 170 #[u9000_, .int .i64 a1, .int .i64 a2] w fun e w' => ∃ v0_ : Value, e = .returned (v0_) ∧ Kd.R k51 51 w' w0.heap.size (fun k_ => (P0_ k_ ∨ w.heap.size ≤ k_)) v0_ r ∧ Below w0.heap.size w0 w' ∧ Kept w w' (fun k_ => P0_ k_) := by
  unfold impl_Entry_170.f at h
  by_cases h0 : 0 ≤ a1
  case neg => rw [if_neg h0] at h; cases h
  rw [if_pos h0] at h
  by_cases h1 : a2 = a1 + 1
  case neg => rw [if_neg h1] at h; cases h
  rw [if_pos h1] at h
  by_cases h2 : a1 < (l0.length : Int)
  case neg => rw [if_neg h2] at h; cases h
  rw [if_pos h2] at h
  obtain rfl := Option.some.inj h
  clear h
  obtain ⟨i, rfl⟩ : ∃ i : Nat, a1 = (i : Int) := ⟨a1.toNat, by omega⟩
  obtain ⟨j, rfl⟩ : ∃ j : Nat, a2 = (j : Int) := ⟨a2.toNat, by omega⟩
  have hj0 : j = i + 1 := by omega
  rw [Int.toNat_natCast]
  obtain ⟨n, hn0⟩ : ∃ n, n = l0.length := ⟨_, rfl⟩
  obtain ⟨g, cap, cur, rfl, hbg, hok, hg, hn, hm, hs, ht⟩ := flatR_open (enc := encE) entM encE_len rfl ho0 (by omega)
  clear ho0 h0 h1
  rw [← hn0] at hn ht h2 ⊢
  have hin : i < n := by omega
  clear h2
  unfold maxLen at hm
  obtain ⟨news, hnews⟩ : ∃ news, news = (l0.drop j).flatMap encE := ⟨_, rfl⟩
  have hlen : news.length = (n - j) * 2 := by rw [hnews, flat_len encE_len, List.length_drop, hn0]
  have hcell : ∀ q v, cur[q]? = some v → w.cell? ⟨g, q, none⟩ = some v := fun q v hq => (blk_cell hg q).trans hq
  have hnew : ∀ t u, news[t]? = some u → cur[j * 2 + t]? = some u := by
    intro t u hu
    have htl : t < (n - j) * 2 := by
      have := (List.getElem?_eq_some_iff.1 hu).1
      rwa [hlen] at this
    rw [hnews, ← flat_drop encE_len, List.getElem?_drop, ← ht, List.getElem?_take, if_pos (by omega)] at hu
    simpa using hu
  obtain ⟨A, hA, hsrc⟩ : ∃ A : Addr, (if cap = j then some (⟨g, 0, none⟩ : Addr) else some ⟨g, j * 2, none⟩) = some A ∧ Hid (∀ t u, news[t]? = some u → w.drew.cell? (A.add t) = some u) := by
    by_cases h : cap = j
    · refine ⟨⟨g, 0, none⟩, by simp [h], fun t u hu => ?_⟩
      have h0 : news.length = 0 := by rw [hlen]; omega
      rw [List.length_eq_zero_iff.1 h0] at hu
      simp at hu
    · refine ⟨⟨g, j * 2, none⟩, by simp [h], fun t u hu => ?_⟩
      rw [Addr.add_lit]
      exact hcell _ _ (hnew t u hu)
  have hcs : cur.size = cap * 2 := hs
  have s1 : Hid (news.length = (n - j) * 2) := hlen
  have s2 : Hid (∀ u ∈ news, u.oneCell' = true) := by
    rw [hnews]
    exact one_flat _
  have s3 : Hid (∀ t, t < news.length → (w.drew.cell? ⟨g, 0 + i * 2 + t, none⟩).isSome = true ∧ w.drew.frozen? ⟨g, 0 + i * 2 + t, none⟩ = false) := by
    intro t htl
    rw [hlen] at htl
    have hb : 0 + i * 2 + t < cur.size := by rw [hcs]; omega
    refine ⟨?_, blk_frozen (w := w.drew) hg _⟩
    show (w.cell? _).isSome = true
    rw [hcell _ _ (Array.getElem?_eq_getElem hb)]
    rfl
  obtain ⟨cur1, hcur1⟩ : ∃ cur1 : Array Value, cur1 = (cur.toList.take (0 + i * 2) ++ news ++ cur.toList.drop (0 + i * 2 + news.length)).toArray := ⟨_, rfl⟩
  have hc1s : cur1.size = cap * 2 := by
    rw [hcur1]
    simp [hlen, hcs]
    omega
  obtain ⟨W1, hW1⟩ : ∃ W1, W1 = w.drew.setCells g (0 + i * 2) news := ⟨_, rfl⟩
  have hW1' : W1 = w.drew.setRow g cur1 := by
    rw [hW1, hcur1]
    exact setCells_setRow g (0 + i * 2) _ news cur w.drew hg (by rw [hlen, hcs]; omega)
  have hg1 : W1.heap[g]? = some (.cells cur1 51 (0, 0)) := by
    rw [hW1']
    exact setRow_heap w.drew g cur cur1 _ _ hg
  obtain ⟨zs, hzs⟩ : ∃ zs, zs = (Builtin.zeroCells (Value.agg #[.string ⟨#[]⟩, .int .i64 0]).cells (n - (i + (n - j)))).toList := ⟨_, rfl⟩
  have hn1 : n - (i + (n - j)) = 1 := by omega
  have hz2 : zs = [.string ⟨#[]⟩, .int .i64 0] := by rw [hzs, hn1, zc1]
  have hzl : zs.length = 2 := by rw [hz2]; rfl
  have hcl : ∀ ty, (Builtin.clear_ #[24] ty #[.slice (some ⟨g, (i + (n - j)) * 2, none⟩) (n - (i + (n - j))) (cap - (i + (n - j)))]).run Try.prog W1 = .ok (.tuple #[]) (W1.setRow g (cur1.toList.take ((i + (n - j)) * 2) ++ zs ++ cur1.toList.drop ((i + (n - j)) * 2 + zs.length)).toArray) := fun ty => by
    have h := run_clear_rowk (P := Try.prog) W1 24 51 ty (.agg #[.string ⟨#[]⟩, .int .i64 0]) (n - (i + (n - j))) Try.underlying24 Try.zeroValue51 (by rw [← hzs, hz2]; intro u hu; simp at hu; rcases hu with rfl | rfl <;> rfl) g ((i + (n - j)) * 2) (cap - (i + (n - j))) cur1 51 (by omega) hg1 (by rw [← hzs, hzl, hc1s]; omega)
    rw [← hzs] at h
    exact h
  obtain ⟨i0, hi0, hzz⟩ := Option.map_eq_some_iff.1 info51
  simp only [Prod.mk.injEq] at hzz
  obtain ⟨_, hz1, _⟩ := hzz
  have hout : (cur1.toList.take ((i + (n - j)) * 2) ++ zs ++ cur1.toList.drop ((i + (n - j)) * 2 + zs.length)).toArray.toList.take ((i + (n - j)) * 2) = (l0.take i ++ l0.drop (i + 1)).flatMap encE := by
    have e1 : (cur.toList.take (i * 2)) = (l0.take i).flatMap encE := by
      rw [← flat_take encE_len, ← ht, List.take_take, Nat.min_eq_left (by omega)]
    have e2 : ((l0.take i).flatMap encE).length = i * 2 := by rw [flat_len encE_len, List.length_take]; omega
    rw [List.toList_toArray, List.append_assoc, List.take_append_of_le_length (by rw [List.length_take, Array.length_toList, hc1s]; omega), List.take_take, Nat.min_self, hcur1, List.toList_toArray, Nat.zero_add, e1, List.take_append_of_le_length (by rw [List.length_append, e2, hlen]; omega), List.take_of_length_le (by rw [List.length_append, e2, hlen]; omega), List.flatMap_append, hnews, hj0]
  have X := Aside0.mk hW1'
  have hW : Hid (W1 = w.drew.setCells g (0 + i * 2) news) := hW1
  have HG1 := Aside0.mk hg1
  have HOUT := Aside0.mk hout
  have HB := Aside0.mk hB
  have HN0 := Aside0.mk hn0
  have HC1 := Aside0.mk hc1s
  have hij : i ≤ j := by omega
  have hne : ¬ (i = j) := by omega
  have hjn : j ≤ n := by omega
  have hic : i ≤ cap := by omega
  have hjc : j ≤ cap := by omega
  have hcn : ¬ (cap = i + (n - j)) := by omega
  have hln : i + (n - j) ≤ n := by omega
  have hlc : i + (n - j) ≤ cap := by omega
  have HJ := Aside0.mk hj0
  have HL := Aside0.mk hzl
  clear hz2 hW1 hW1' hg1 hg hcell hnew hnews hlen hcs hs ht hcur1 hc1s hzs hn1 hzl hout hB hn0 hj0
  go_enter Try.func170, Try.ntmps170
  go_wp2_with fail
  go_region_law (refine step_append_room rfl (.tmp 22) (.tmp 25) 24 rfl 51 i0 2 Try.underlying24 hi0 hz1 g 0 i cap (by simp [Act.eval, Act.put]) A (n - j) (cap - j) news (by simp [Act.eval, Act.put]) s1.out hsrc.out s2.out (by omega) s3.out ?_; rw [← hW.out])
  go_wp2
  go_ret
  refine ⟨_, rfl, ?_, ?_, ?_⟩
  · refine flatR_mk entM encE_len rfl ?_ hbg (.inl hok) (setRow_heap W1 g cur1 _ _ _ HG1.out) (by omega) (by unfold maxLen; omega) ?_ (by have h_ := HOUT.out; simp only [List.append_assoc, List.toList_toArray] at h_ ⊢; exact h_)
    · have h1 := HN0.out
      have h2 := HJ.out
      rw [List.length_append, List.length_take, List.length_drop]
      omega
    · have h1 := HC1.out
      have h2 := HL.out
      simp only [List.size_toArray, List.length_append, List.length_take, List.length_drop, Array.length_toList]
      omega
  · rw [X.out]
    exact below_setRow (below_setRow (below_drew HB.out) hbg _) hbg _
  · rw [X.out]
    exact kept_setRow (kept_setRow (Kept.drew (Kept.refl w _)) (.inl hok) _) (.inl hok) _
end Go.Proofs.Ytcpljigliklgcaa.Q
end

section
namespace Go.Proofs.Ytcpljigliklgcaa.Q
open Go.RowKit Go.Proofs.YtcpljigliklgcaaW.PrintWords Go.Proofs.YtcpljigliklgcaaW.PrintLast Go.Proofs.YtcpljigliklgcaaW.PrintMore
attribute [local go_sem] max2_int min2_int max_two min_two max_three min_three max_four min_four   -- for this text's walks alone
set_option linter.unusedVariables false
set_option linter.unusedSimpArgs false
attribute [local go_sem] bin_leq bin_gtr bin_geq
def impl_Entry_171.f (l0 : List S51) (a1 : Int) (l2 : List S51) : Option (List S51) := match l2 with
  | [x] => if 0 ≤ a1 then (if a1 ≤ (l0.length : Int) then (if l0.length < 5000000 then some (l0.take a1.toNat ++ [x] ++ l0.drop a1.toNat) else none) else none) else none
  | _ => none
set_option maxHeartbeats 8000000 in
set_option maxRecDepth 100000 in
theorem impl_Entry_171.atEnd (l0 l2 : List S51) (w0 w : World) (P0_ P2_ : Nat → Prop) (v : Value) (g2 c2 : Nat) (hB : Below w0.heap.size w0 w) (ho0 : Kd.R k51 51 w w0.heap.size P0_ v l0) (hl2 : l2.length = 1) (hC2 : Kd.C k51 w (some ⟨g2, 0, none⟩) 1 l2) (hlen : l0.length < 5000000) :
    Calls Try.prog 171 #[v, .int .i64 (l0.length : Int), .slice (some ⟨g2, 0, none⟩) 1 c2] w fun e w' => ∃ v0_ : Value, e = .returned v0_ ∧ Kd.R k51 51 w' w0.heap.size (fun k_ => (P0_ k_ ∨ P2_ k_ ∨ w.heap.size ≤ k_)) v0_ (l0 ++ l2) ∧ Below w0.heap.size w0 w' ∧ Kept w w' (fun k_ => P0_ k_ ∨ P2_ k_) := by
  have HO := Aside0.mk (Kd.R_mono (ok' := fun k_ => (P0_ k_ ∨ P2_ k_ ∨ w.heap.size ≤ k_)) ho0 (fun k hk => .inl hk))
  have HB := Aside0.mk hB
  have H1 := Aside0.mk ho0.1
  have HC := Aside0.mk hC2
  obtain ⟨A0, c0, rfl⟩ := Kd.R_slice ho0
  have hnc : l0.length ≤ c0 := (Kd.R_reads' ho0).2.1
  obtain ⟨n, hn⟩ : ∃ n, n = l0.length := ⟨_, rfl⟩
  have HN := Aside0.mk hn
  rw [← hn] at HO H1 hnc hlen ⊢
  have hin : (n : Int) ≤ (n : Int) := Int.le_refl _
  have hm0 : ¬ ((1 : Nat) : Int) = 0 := by decide
  clear hB ho0 hC2 hn
  go_enter Try.func171, Try.ntmps171
  go_wp2_with (at_builtin; refine Kd.R_append_rows k51 (w0 := w0) w0.heap.size rfl (.tmp 23) (.tmp 24) 24 51 (.agg #[(.string ⟨#[]⟩), (.int .i64 0)]) 24 rfl Try.underlying24 info51 rfl (by decide) (by omega) (.slice A0 n c0) l0 l2 (some ⟨g2, 0, none⟩) 1 c2 (fun k_ => (P0_ k_ ∨ P2_ k_ ∨ w.heap.size ≤ k_)) (fun _ => False) rfl rfl HO.out HC.out (fun x cs hK => by rw [k51_open hK]; exact k51_mkM _ _ _ x) (fun _ h => h.elim) (fun k hk => .inr (.inr hk)) HB.out (below_size HB.out) (by rw [← HN.out]; omega) ?_; intro v1 w1 hr hb hg _; have HR1 := Aside0.mk hr; have HB1 := Aside0.mk hb; have HG1 := Aside0.mk hg; clear hr hb hg)
  all_goals
    go_ret
    refine ⟨_, rfl, HR1.out, HB1.out, ⟨HG1.out.size, fun k hk hn2 => HG1.out.block k hk (fun e => hn2 (.inl (H1.out k e.symm)))⟩⟩
set_option maxHeartbeats 8000000 in
set_option maxRecDepth 100000 in
theorem impl_Entry_171.shift (l0 : List S51) (x : S51) (w0 w : World) (P0_ P2_ : Nat → Prop) (g cap g2 cap2 i n m j k : Nat) (cur cur2 : Array Value) (hB : Below w0.heap.size w0 w) (hbg : w0.heap.size ≤ g) (hok : P0_ g) (hne : g2 ≠ g)
    (hg : w.heap[g]? = some (.cells cur 51 (0, 0))) (hm : cap ≤ maxLen) (hs : cur.size = cap * 2) (ht : cur.toList.take (n * 2) = l0.flatMap encE)
    (hg2 : w.heap[g2]? = some (.cells cur2 51 (0, 0))) (hs2 : cur2.size = cap2 * 2) (hmc : m ≤ cap2) (ht2 : cur2.toList.take (m * 2) = encE x)
    (hn : n = l0.length) (hm1 : m = 1) (hi : i < n) (hnc : n ≤ cap) (hj : j = i + m) (hk : k = n + m) (h50 : n < 5000000) (hroom : k ≤ cap) :
    Calls Try.prog 171 #[.slice (some ⟨g, 0, none⟩) n cap, .int .i64 (i : Int), .slice (some ⟨g2, 0, none⟩) m cap2] w fun e w' => ∃ v0_ : Value, e = .returned v0_ ∧ Kd.R k51 51 w' w0.heap.size (fun k_ => (P0_ k_ ∨ P2_ k_ ∨ w.heap.size ≤ k_)) v0_ (l0.take i ++ [x] ++ l0.drop i) ∧ Below w0.heap.size w0 w' ∧ Kept w w' (fun k_ => P0_ k_ ∨ P2_ k_) := by
  unfold maxLen at hm
  obtain ⟨i0, hi0, hzz⟩ := Option.map_eq_some_iff.1 info51
  simp only [Prod.mk.injEq] at hzz
  obtain ⟨hz0, hz1, hzb⟩ := hzz
  have hsz : (Try.prog.info? 51).map (·.size) = some 2 := by rw [hi0]; simp [hz1]
  have hso : ∀ w, (Go.sizeOf 51).run Try.prog w = .ok 2 w := fun w => by simp [Go.sizeOf, typeInfo, hi0, hz1]
  obtain ⟨cs1, hcs1⟩ : ∃ cs1, cs1 = (l0.drop i).flatMap encE := ⟨_, rfl⟩
  have hc1 : cs1.length = (n - i) * 2 := by rw [hcs1, flat_len encE_len, List.length_drop, hn]
  have hsrc : ∀ (t : Nat) (u : Value), cs1[t]? = some u → cur[i * 2 + t]? = some u := by
    intro t u hu
    have htl : t < (n - i) * 2 := by
      have := (List.getElem?_eq_some_iff.1 hu).1
      rwa [hc1] at this
    rw [hcs1, ← flat_drop encE_len, List.getElem?_drop, ← ht, List.getElem?_take, if_pos (by omega)] at hu
    simpa using hu
  have hsrc2 : ∀ (t : Nat) (u : Value), (encE x)[t]? = some u → cur2[t]? = some u := by
    intro t u hu
    have htl : t < 2 := (List.getElem?_eq_some_iff.1 hu).1
    rw [← ht2, List.getElem?_take, if_pos (by omega)] at hu
    simpa using hu
  have one_e : ∀ u ∈ encE x, u.oneCell' = true := by
    intro u hu
    have := one_flat [x] u (by rw [List.flatMap_cons, List.flatMap_nil, List.append_nil]; exact hu)
    exact this
  have hz1' : ¬ ((m : Int) = 0) := by omega
  have hz2 : ¬ ((i : Int) = (n : Int)) := by omega
  have hin : i ≤ n := by omega
  have hic : i ≤ cap := by omega
  have hik : i ≤ k := by omega
  have hjk : j ≤ k := by omega
  have hci : ¬ (cap = i) := by omega
  have hci' : ¬ ((cap : Int) = (i : Int)) := by omega
  have e1 : (cur.toList.take (i * 2)) = (l0.take i).flatMap encE := by
    rw [← flat_take encE_len, ← ht, List.take_take, Nat.min_eq_left (by omega)]
  have e2 : (l0.take i).flatMap encE ++ encE x ++ cs1 = (l0.take i ++ [x] ++ l0.drop i).flatMap encE := by
    rw [hcs1, List.flatMap_append, List.flatMap_append, List.flatMap_cons, List.flatMap_nil, List.append_nil]
  have e3 : (l0.take i ++ [x] ++ l0.drop i).length = k := by
    simp only [List.length_append, List.length_take, List.length_drop, List.length_cons, List.length_nil]
    omega
  have hov : ∀ lb cb, (callFunc 232 #[.slice (some ⟨g2, 0, none⟩) m cap2, .slice (some ⟨g, j * 2, none⟩) lb cb]).run Try.prog w = .ok (.value (.bool false)) w := fun lb cb => by
    rw [run_callFunc_extern Try.func232 (by kernel_rfl) (by kernel_rfl) (by kernel_rfl) (e := Extern.SlicesOverlaps.overlaps #[24, 24] #[4]) (by kernel_rfl),
      Lib.run_overlaps_apart w 24 4 51 Try.underlying24 2 hso ⟨g2, 0, none⟩ ⟨g, j * 2, none⟩ m cap2 lb cb hne 51 51 cur2.size cur.size (by simp [World.shape?, hg2]) (by simp [World.shape?, hg]) (by omega) (blk_frozen hg2 _) (blk_frozen hg2 _)]
    rfl
  obtain ⟨cur1, hcur1⟩ : ∃ cur1 : Array Value, cur1 = (cur.toList.take (j * 2) ++ cs1 ++ cur.toList.drop (j * 2 + cs1.length)).toArray := ⟨_, rfl⟩
  have hc1s : cur1.size = cap * 2 := by
    rw [hcur1]
    simp only [List.size_toArray, List.length_append, List.length_take, List.length_drop, Array.length_toList, hc1, hs]
    omega
  obtain ⟨W1, hW1⟩ : ∃ W1, W1 = w.drew.setRow g cur1 := ⟨_, rfl⟩
  have hg1 : W1.heap[g]? = some (.cells cur1 51 (0, 0)) := by rw [hW1]; exact setRow_heap w.drew g cur cur1 _ _ hg
  have hg21 : W1.heap[g2]? = some (.cells cur2 51 (0, 0)) := by rw [hW1, setRow_other w.drew g g2 cur1 hne]; exact hg2
  have hcp1 : Aside0 (∀ ty, (Builtin.copy_ #[24, 24] ty #[.slice (some ⟨g, j * 2, none⟩) (k - j) (cap - j), .slice (some ⟨g, i * 2, none⟩) (k - i) (cap - i)]).run Try.prog w.drew = .ok (goInt (n - i : Nat)) W1) := Aside0.mk fun ty => by
    rw [hW1, hcur1]
    exact run_copy_rowk w.drew _ _ ty 51 2 g (j * 2) (k - j) (cap - j) ⟨g, i * 2, none⟩ (k - i) (cap - i) (n - i) cur 51 cs1 Try.underlying24 hsz hg (by simp only [Nat.min_def]; split <;> omega) hc1
      (fun t u hu => by rw [Addr.add_lit]; exact (blk_cell (w := w.drew) hg (i * 2 + t)).trans (hsrc t u hu)) (by rw [hc1, hs]; omega) (by rw [hcs1]; exact one_flat _)
  obtain ⟨cur3, hcur3⟩ : ∃ cur3 : Array Value, cur3 = (cur1.toList.take (i * 2) ++ encE x ++ cur1.toList.drop (i * 2 + (encE x).length)).toArray := ⟨_, rfl⟩
  have hcp2 : Aside0 (∀ ty, (Builtin.copy_ #[24, 24] ty #[.slice (some ⟨g, i * 2, none⟩) (k - i) (cap - i), .slice (some ⟨g2, 0, none⟩) m cap2]).run Try.prog W1 = .ok (goInt m) (W1.setRow g cur3)) := Aside0.mk fun ty => by
    rw [hcur3]
    exact run_copy_rowk W1 _ _ ty 51 2 g (i * 2) (k - i) (cap - i) ⟨g2, 0, none⟩ m cap2 m cur1 51 (encE x) Try.underlying24 hsz hg1 (by simp only [Nat.min_def]; split <;> omega) (by rw [hm1]; rfl)
      (fun t u hu => by rw [Addr.add_lit, Nat.zero_add]; exact (blk_cell hg21 t).trans (hsrc2 t u hu)) (by rw [hc1s]; show i * 2 + 2 ≤ _; omega) one_e
  have hout : cur3.toList.take (k * 2) = (l0.take i ++ [x] ++ l0.drop i).flatMap encE := by
    have hb : j * 2 = i * 2 + (encE x).length := by show j * 2 = i * 2 + 2; omega
    have hl : j * 2 + cs1.length ≤ cur.toList.length := by rw [hc1, Array.length_toList, hs]; omega
    rw [hcur3, hcur1, List.toList_toArray, List.toList_toArray, row_shift hb hl, e1, e2, List.take_append_of_le_length (by rw [flat_len encE_len, e3]; omega), List.take_of_length_le (by rw [flat_len encE_len, e3]; omega)]
  have hc3s : cur3.size = cap * 2 := by
    rw [hcur3]
    simp only [List.size_toArray, List.length_append, List.length_take, List.length_drop, Array.length_toList, hc1s, encE, List.length_cons, List.length_nil]
    omega
  have hfin : Kd.R k51 51 (W1.setRow g cur3) w0.heap.size (fun k_ => (P0_ k_ ∨ P2_ k_ ∨ w.heap.size ≤ k_)) (.slice (some ⟨g, 0, none⟩) k cap) (l0.take i ++ [x] ++ l0.drop i) :=
    flatR_mk entM encE_len rfl e3.symm hbg (.inl hok) (setRow_heap W1 g cur1 _ _ _ hg1) hroom (by unfold maxLen; omega) hc3s hout
  have hbel : Below w0.heap.size w0 (W1.setRow g cur3) := by
    rw [hW1]
    exact below_setRow (below_setRow (below_drew hB) hbg _) hbg _
  have hkp : Kept w (W1.setRow g cur3) (fun k_ => P0_ k_ ∨ P2_ k_) := by
    rw [hW1]
    exact kept_setRow (kept_setRow (Kept.drew (Kept.refl w _)) (.inl (.inl hok)) _) (.inl (.inl hok)) _
  have HF := Aside0.mk (And.intro hfin (And.intro hbel hkp))
  have hcj : ¬ (cap = j) := by omega
  have hgt : ¬ ((cap : Int) < (k : Int)) := by omega
  have hkc : k ≤ cap := hroom
  have hj10 : i + m = j ∧ j < 10000000 ∧ n + m = k ∧ k < 10000000 ∧ k = i + (k - i) := by omega
  have hw1 : True → IntKind.i64.wrap ((i : Int) + (m : Int)) = (j : Int) := fun _ => (wI hj10.1 hj10.2.1).1
  have hw1' : True → wrap64 ((i : Int) + (m : Int)) = (j : Int) := fun _ => (wI hj10.1 hj10.2.1).2
  have hw2 : True → IntKind.i64.wrap ((n : Int) + (m : Int)) = (k : Int) := fun _ => (wI hj10.2.2.1 hj10.2.2.2.1).1
  have hw2' : True → wrap64 ((n : Int) + (m : Int)) = (k : Int) := fun _ => (wI hj10.2.2.1 hj10.2.2.2.1).2
  have hw3 : True → IntKind.i64.wrap ((k : Int) - (i : Int)) = ((k - i : Nat) : Int) := fun _ => (wS hj10.2.2.2.2 hj10.2.2.2.1).1
  have hw3' : True → wrap64 ((k : Int) - (i : Int)) = ((k - i : Nat) : Int) := fun _ => (wS hj10.2.2.2.2 hj10.2.2.2.1).2
  clear hj10 h50
  clear hB hg hg2 hg1 hg21 hs hs2 ht ht2 hcs1 hc1 hsrc hsrc2 one_e e1 e2 e3 hcur1 hc1s hW1 hcur3 hout hc3s hfin hbel hkp hok hn hj hk hm1
  go_enter Try.func171, Try.ntmps171
  go_wp2_with (simp only [hov])
  go_region_law (refine step_copy_runI rfl (.tmp 73) (.tmp 76) 24 24 rfl (.slice (some ⟨g, j * 2, none⟩) (k - j) (cap - j)) (.slice (some ⟨g, i * 2, none⟩) (k - i) (cap - i)) (by simp [Act.eval, Act.put]) (by simp [Act.eval, Act.put]) (hcp1.out _) ?_)
  have hcp3 := hcp2.out
  go_wp2
  go_ret
  exact ⟨_, rfl, HF.out.1, HF.out.2.1, HF.out.2.2⟩
set_option maxHeartbeats 8000000 in
set_option maxRecDepth 100000 in
theorem impl_Entry_171.grow (l0 : List S51) (x : S51) (w0 w : World) (P0_ P2_ : Nat → Prop) (g cap g2 cap2 i n m j k : Nat) (cur cur2 : Array Value) (hB : Below w0.heap.size w0 w) (hbg : w0.heap.size ≤ g) (hok : P0_ g) (hne : g2 ≠ g)
    (hg : w.heap[g]? = some (.cells cur 51 (0, 0))) (hm : cap ≤ maxLen) (hs : cur.size = cap * 2) (ht : cur.toList.take (n * 2) = l0.flatMap encE)
    (hg2 : w.heap[g2]? = some (.cells cur2 51 (0, 0))) (hs2 : cur2.size = cap2 * 2) (hmc : m ≤ cap2) (ht2 : cur2.toList.take (m * 2) = encE x)
    (hn : n = l0.length) (hm1 : m = 1) (hi : i < n) (hnc : n ≤ cap) (hj : j = i + m) (hk : k = n + m) (h50 : n < 5000000) (hroom : cap < k) :
    Calls Try.prog 171 #[.slice (some ⟨g, 0, none⟩) n cap, .int .i64 (i : Int), .slice (some ⟨g2, 0, none⟩) m cap2] w fun e w' => ∃ v0_ : Value, e = .returned v0_ ∧ Kd.R k51 51 w' w0.heap.size (fun k_ => (P0_ k_ ∨ P2_ k_ ∨ w.heap.size ≤ k_)) v0_ (l0.take i ++ [x] ++ l0.drop i) ∧ Below w0.heap.size w0 w' ∧ Kept w w' (fun k_ => P0_ k_ ∨ P2_ k_) := by
  unfold maxLen at hm
  obtain ⟨i0, hi0, hzz⟩ := Option.map_eq_some_iff.1 info51
  simp only [Prod.mk.injEq] at hzz
  obtain ⟨hz0, hz1, hzb⟩ := hzz
  have hsz : (Try.prog.info? 51).map (·.size) = some 2 := by rw [hi0]; simp [hz1]
  have hso : ∀ w, (Go.sizeOf 51).run Try.prog w = .ok 2 w := fun w => by simp [Go.sizeOf, typeInfo, hi0, hz1]
  obtain ⟨cs1, hcs1⟩ : ∃ cs1, cs1 = (l0.drop i).flatMap encE := ⟨_, rfl⟩
  have hc1 : cs1.length = (n - i) * 2 := by rw [hcs1, flat_len encE_len, List.length_drop, hn]
  have hsrc : ∀ (t : Nat) (u : Value), cs1[t]? = some u → cur[i * 2 + t]? = some u := by
    intro t u hu
    have htl : t < (n - i) * 2 := by
      have := (List.getElem?_eq_some_iff.1 hu).1
      rwa [hc1] at this
    rw [hcs1, ← flat_drop encE_len, List.getElem?_drop, ← ht, List.getElem?_take, if_pos (by omega)] at hu
    simpa using hu
  have hsrc2 : ∀ (t : Nat) (u : Value), (encE x)[t]? = some u → cur2[t]? = some u := by
    intro t u hu
    have htl : t < 2 := (List.getElem?_eq_some_iff.1 hu).1
    rw [← ht2, List.getElem?_take, if_pos (by omega)] at hu
    simpa using hu
  have one_e : ∀ u ∈ encE x, u.oneCell' = true := by
    intro u hu
    have := one_flat [x] u (by rw [List.flatMap_cons, List.flatMap_nil, List.append_nil]; exact hu)
    exact this
  have hz1' : ¬ ((m : Int) = 0) := by omega
  have hz2 : ¬ ((i : Int) = (n : Int)) := by omega
  have hin : i ≤ n := by omega
  have hic : i ≤ cap := by omega
  have hik : i ≤ k := by omega
  have hjk : j ≤ k := by omega
  have hci : ¬ (cap = i) := by omega
  have hci' : ¬ ((cap : Int) = (i : Int)) := by omega
  have e1 : (cur.toList.take (i * 2)) = (l0.take i).flatMap encE := by
    rw [← flat_take encE_len, ← ht, List.take_take, Nat.min_eq_left (by omega)]
  have e2 : (l0.take i).flatMap encE ++ encE x ++ cs1 = (l0.take i ++ [x] ++ l0.drop i).flatMap encE := by
    rw [hcs1, List.flatMap_append, List.flatMap_append, List.flatMap_cons, List.flatMap_nil, List.append_nil]
  have e3 : (l0.take i ++ [x] ++ l0.drop i).length = k := by
    simp only [List.length_append, List.length_take, List.length_drop, List.length_cons, List.length_nil]
    omega
  have hbw : g < w.heap.size := blk_lt hg
  have hbw2 : g2 < w.heap.size := blk_lt hg2
  have hold : (Builtin.firstCells i0.size i (.slice (some ⟨g, 0, none⟩) i cap)).run Try.prog w.drew = .ok ((l0.take i).flatMap encE).toArray w.drew := by
    rw [hz1]
    exact run_firstCells_some w.drew 2 i ⟨g, 0, none⟩ i cap _ (by rw [flat_len encE_len, List.length_take, Nat.min_eq_left (by omega)]) (fun t u hu => by
      rw [Addr.add_lit, Nat.zero_add]
      refine (blk_cell (w := w.drew) hg t).trans ?_
      rw [← e1, List.getElem?_take] at hu
      split at hu
      · simpa using hu
      · cases hu)
  obtain ⟨G, hG⟩ : ∃ G, G = grownCap w k cap 51 := ⟨_, rfl⟩
  have hGn : k ≤ G := by rw [hG]; exact grownCap_ge w _ _ _
  have hGm : G ≤ maxLen := by
    rw [hG]
    exact grownCap_le_maxLen w k cap 51 (by unfold maxLen; omega)
  obtain ⟨ROW, hROW⟩ : ∃ ROW : Array Value, ROW = ((l0.take i).flatMap encE).toArray ++ Builtin.zeroCells (Value.agg #[.string ⟨#[]⟩, .int .i64 0]).cells (k - i) ++ Builtin.zeroCells (Value.agg #[.string ⟨#[]⟩, .int .i64 0]).cells (G - k) := ⟨_, rfl⟩
  obtain ⟨W1, hW1⟩ : ∃ W1, W1 = w.drew.alloc (.cells ROW 51) := ⟨_, rfl⟩
  have hikk : i + (k - i) = k := by omega
  have hrz : Aside0 (∀ ty, (Builtin.append_ #[24, 3] ty #[.slice (some ⟨g, 0, none⟩) i cap, .int .i64 ((k - i : Nat) : Int)]).run Try.prog w = .ok (.slice (some ⟨w.heap.size, 0, none⟩) k G) W1) := Aside0.mk fun ty => by
    have h := Lib.run_append_grow_zeros w 24 3 ty 51 i0 (.agg #[.string ⟨#[]⟩, .int .i64 0]) .i64 .i64 Try.underlying24 Try.underlying3 hi0 hz0 (some ⟨g, 0, none⟩) i cap _ hold (k - i) (by omega) (by rw [hz1]; omega) (by omega) (by omega) (by rw [hzb]; omega) (by rw [hzb, hikk]; exact growslice_fits hroom (by omega))
    rw [hikk, ← hG, ← hROW, ← hW1] at h
    exact h
  have zl : ∀ q, (Builtin.zeroCells (Value.agg #[.string ⟨#[]⟩, .int .i64 0]).cells q).size = q * 2 := fun q => by
    simp [Builtin.zeroCells, Value.cells]
  have hRs : ROW.size = G * 2 := by
    rw [hROW, Array.size_append, Array.size_append, List.size_toArray, flat_len encE_len, List.length_take, zl, zl]
    omega
  have hRt : ROW.toList.take (i * 2) = (l0.take i).flatMap encE := by
    have hl : ((l0.take i).flatMap encE).length = i * 2 := by rw [flat_len encE_len, List.length_take]; omega
    rw [hROW, Array.toList_append, Array.toList_append, List.append_assoc, List.take_append_of_le_length (by simp only []; omega), List.take_of_length_le (by simp only []; omega)]
  have hN : W1.heap[w.heap.size]? = some (.cells ROW 51 (0, 0)) := by
    rw [hW1]
    exact heap_alloc_new w.drew _
  have hO : ∀ q, q < w.heap.size → W1.heap[q]? = w.heap[q]? := fun q hq => by
    rw [hW1]
    exact (below_alloc (Below.refl w.drew.heap.size w.drew) (.cells ROW 51)).block q hq
  obtain ⟨ROW2, hR2⟩ : ∃ ROW2 : Array Value, ROW2 = (ROW.toList.take (i * 2) ++ encE x ++ ROW.toList.drop (i * 2 + (encE x).length)).toArray := ⟨_, rfl⟩
  have hR2s : ROW2.size = G * 2 := by
    rw [hR2]
    simp only [List.size_toArray, List.length_append, List.length_take, List.length_drop, Array.length_toList, hRs, encE, List.length_cons, List.length_nil]
    omega
  obtain ⟨W2, hW2⟩ : ∃ W2, W2 = W1.setRow w.heap.size ROW2 := ⟨_, rfl⟩
  have hcpA : ∀ ty, (Builtin.copy_ #[24, 24] ty #[.slice (some ⟨w.heap.size, i * 2, none⟩) (k - i) (G - i), .slice (some ⟨g2, 0, none⟩) m cap2]).run Try.prog W1 = .ok (goInt m) W2 := fun ty => by
    rw [hW2, hR2]
    exact run_copy_rowk W1 _ _ ty 51 2 w.heap.size (i * 2) (k - i) (G - i) ⟨g2, 0, none⟩ m cap2 m ROW 51 (encE x) Try.underlying24 hsz hN (by simp only [Nat.min_def]; split <;> omega) (by rw [hm1]; rfl)
      (fun t u hu => by rw [Addr.add_lit, Nat.zero_add]; exact (blk_cell ((hO g2 hbw2).trans hg2) t).trans (hsrc2 t u hu)) (by rw [hRs]; show i * 2 + 2 ≤ _; omega) one_e
  have hN2 : W2.heap[w.heap.size]? = some (.cells ROW2 51 (0, 0)) := by rw [hW2]; exact setRow_heap W1 _ ROW ROW2 _ _ hN
  have hg2' : W2.heap[g]? = some (.cells cur 51 (0, 0)) := by rw [hW2, setRow_other W1 w.heap.size g ROW2 (by omega), hO g hbw]; exact hg
  obtain ⟨ROW3, hR3⟩ : ∃ ROW3 : Array Value, ROW3 = (ROW2.toList.take (j * 2) ++ cs1 ++ ROW2.toList.drop (j * 2 + cs1.length)).toArray := ⟨_, rfl⟩
  have hcpB : Aside0 (∀ ty, (Builtin.copy_ #[24, 24] ty #[.slice (some ⟨w.heap.size, j * 2, none⟩) (k - j) (G - j), .slice (some ⟨g, i * 2, none⟩) (n - i) (cap - i)]).run Try.prog W2.drew = .ok (goInt (n - i : Nat)) (W2.drew.setRow w.heap.size ROW3)) := Aside0.mk fun ty => by
    rw [hR3]
    exact run_copy_rowk W2.drew _ _ ty 51 2 w.heap.size (j * 2) (k - j) (G - j) ⟨g, i * 2, none⟩ (n - i) (cap - i) (n - i) ROW2 51 cs1 Try.underlying24 hsz hN2 (by simp only [Nat.min_def]; split <;> omega) hc1
      (fun t u hu => by rw [Addr.add_lit]; exact (blk_cell (w := W2.drew) hg2' (i * 2 + t)).trans (hsrc t u hu)) (by rw [hc1, hR2s]; omega) (by rw [hcs1]; exact one_flat _)
  have hR3s : ROW3.size = G * 2 := by
    rw [hR3]
    simp only [List.size_toArray, List.length_append, List.length_take, List.length_drop, Array.length_toList, hR2s, hc1]
    omega
  have hout : ROW3.toList.take (k * 2) = (l0.take i ++ [x] ++ l0.drop i).flatMap encE := by
    have hb : j * 2 = i * 2 + (encE x).length := by show j * 2 = i * 2 + 2; omega
    have hl : j * 2 + cs1.length ≤ ROW.toList.length := by rw [hc1, Array.length_toList, hRs]; omega
    have hkk : k * 2 = j * 2 + cs1.length := by rw [hc1]; omega
    rw [hR3, hR2, List.toList_toArray, List.toList_toArray, hkk, row_two hb hl, hRt, e2]
  have hsw : w0.heap.size ≤ w.heap.size := hB.size
  have hfin : Kd.R k51 51 (W2.drew.setRow w.heap.size ROW3) w0.heap.size (fun k_ => (P0_ k_ ∨ P2_ k_ ∨ w.heap.size ≤ k_)) (.slice (some ⟨w.heap.size, 0, none⟩) k G) (l0.take i ++ [x] ++ l0.drop i) :=
    flatR_mk entM encE_len rfl e3.symm hsw (.inr (.inr (Nat.le_refl _))) (setRow_heap W2.drew _ ROW2 _ _ _ hN2) hGn hGm hR3s hout
  have hbel : Below w0.heap.size w0 (W2.drew.setRow w.heap.size ROW3) := by
    rw [hW2, hW1]
    exact below_setRow (below_drew (below_setRow (below_alloc (below_drew hB) _) hsw _)) hsw _
  have hkp : Kept w (W2.drew.setRow w.heap.size ROW3) (fun k_ => P0_ k_ ∨ P2_ k_) := by
    rw [hW2, hW1]
    exact kept_setRow (Kept.drew (kept_setRow (Kept.alloc (Kept.drew (Kept.refl w _)) _) (.inr (Nat.le_refl _)) _)) (.inr (Nat.le_refl _)) _
  have HF := Aside0.mk (And.intro hfin (And.intro hbel hkp))
  have hGi : ¬ (G = i) := by omega
  have hGj : ¬ (G = j) := by omega
  have hgt : (cap : Int) < (k : Int) := by omega
  have hiG : i ≤ G := by omega
  have hjG : j ≤ G := by omega
  have hG63 : G ≤ 9223372036854775807 := by
    have := hGm
    unfold maxLen at this
    omega
  have hj10 : i + m = j ∧ j < 10000000 ∧ n + m = k ∧ k < 10000000 ∧ k = i + (k - i) := by omega
  have hw1 : True → IntKind.i64.wrap ((i : Int) + (m : Int)) = (j : Int) := fun _ => (wI hj10.1 hj10.2.1).1
  have hw1' : True → wrap64 ((i : Int) + (m : Int)) = (j : Int) := fun _ => (wI hj10.1 hj10.2.1).2
  have hw2 : True → IntKind.i64.wrap ((n : Int) + (m : Int)) = (k : Int) := fun _ => (wI hj10.2.2.1 hj10.2.2.2.1).1
  have hw2' : True → wrap64 ((n : Int) + (m : Int)) = (k : Int) := fun _ => (wI hj10.2.2.1 hj10.2.2.2.1).2
  have hw3 : True → IntKind.i64.wrap ((k : Int) - (i : Int)) = ((k - i : Nat) : Int) := fun _ => (wS hj10.2.2.2.2 hj10.2.2.2.1).1
  have hw3' : True → wrap64 ((k : Int) - (i : Int)) = ((k - i : Nat) : Int) := fun _ => (wS hj10.2.2.2.2 hj10.2.2.2.1).2
  clear hj10 h50
  clear hB hg hg2 hs hs2 ht ht2 hcs1 hc1 hsrc hsrc2 one_e e1 e2 e3 hold hROW hRs hRt hN hO hR2 hR2s hW2 hN2 hg2' hR3 hR3s hout hfin hbel hkp hok hn hj hk hm1 hW1 hG hGm hikk zl hbw hbw2 hsw
  go_enter Try.func171, Try.ntmps171
  go_wp2_with (at_builtin; refine Lib.wpList_append_run _ rfl _ _ _ _ rfl _ _ rfl rfl _ _ (hrz.out _) ?_)
  go_region_law (refine step_copy_runI rfl (.tmp 50) (.tmp 53) 24 24 rfl (.slice (some ⟨w.heap.size, j * 2, none⟩) (k - j) (G - j)) (.slice (some ⟨g, i * 2, none⟩) (n - i) (cap - i)) (by simp [Act.eval, Act.put]) (by simp [Act.eval, Act.put]) (hcpB.out _) ?_)
  go_wp2
  go_ret
  exact ⟨_, rfl, HF.out.1, HF.out.2.1, HF.out.2.2⟩
set_option maxHeartbeats 8000000 in
set_option maxRecDepth 100000 in
theorem impl_Entry_171.calls (P0_ : Nat → Prop) (u9000_ : Value) (l0 : List (S51)) (a1 : Int) (P2_ : Nat → Prop) (u9001_ : Value) (l2 : List (S51)) (r : List (S51)) (w0 w : World) (hB : Below w0.heap.size w0 w) (ho0 : Kd.R k51 51 w w0.heap.size P0_ u9000_ l0) (hp0_2 : ∀ k_, P0_ k_ → ¬ P2_ k_) (ho2 : Kd.R k51 51 w w0.heap.size P2_ u9001_ l2) (hp2_0 : ∀ k_, P2_ k_ → ¬ P0_ k_) (h : impl_Entry_171.f l0 a1 l2 = some r) :
    Calls Try.prog 171 #[u9000_, .int .i64 a1, u9001_] w fun e w' => ∃ v0_ : Value, e = .returned (v0_) ∧ Kd.R k51 51 w' w0.heap.size (fun k_ => (P0_ k_ ∨ P2_ k_ ∨ w.heap.size ≤ k_)) v0_ r ∧ Below w0.heap.size w0 w' ∧ Kept w w' (fun k_ => P0_ k_ ∨ P2_ k_) := by
  unfold impl_Entry_171.f at h
  match l2, ho2, h with
  | [], _, h => cases h
  | _ :: _ :: _, _, h => cases h
  | [x], ho2, h =>
  simp only at h
  by_cases h0 : 0 ≤ a1
  case neg => rw [if_neg h0] at h; cases h
  rw [if_pos h0] at h
  by_cases h1 : a1 ≤ (l0.length : Int)
  case neg => rw [if_neg h1] at h; cases h
  rw [if_pos h1] at h
  by_cases h2 : l0.length < 5000000
  case neg => rw [if_neg h2] at h; cases h
  rw [if_pos h2] at h
  obtain rfl := Option.some.inj h
  clear h
  obtain ⟨i, rfl⟩ : ∃ i : Nat, a1 = (i : Int) := ⟨a1.toNat, by omega⟩
  rw [Int.toNat_natCast]
  obtain ⟨A2, c2, e2, hc2, hC2⟩ := Kd.R_reads ho2
  obtain ⟨g2, cap2, cur2, e3, hbg2, hok2, hg2, hn2, hm2, hs2, ht2⟩ := flatR_open (enc := encE) entM encE_len rfl ho2 (by simp)
  rw [e3] at e2 ⊢
  injection e2 with e4 e5 e6
  subst e4 e6
  by_cases hend : i = l0.length
  · subst hend
    rw [List.take_of_length_le (Nat.le_refl _), List.drop_of_length_le (Nat.le_refl _), List.append_nil]
    exact impl_Entry_171.atEnd l0 [x] w0 w P0_ P2_ _ g2 cap2 hB ho0 rfl hC2 h2
  · have hin : i < l0.length := by omega
    obtain ⟨g, cap, cur, rfl, hbg, hok, hg, hnc, hm, hs, ht⟩ := flatR_open (enc := encE) entM encE_len rfl ho0 (by omega)
    have hne : g2 ≠ g := fun e => hp0_2 g hok (e ▸ hok2)
    have ht2' : cur2.toList.take (1 * 2) = encE x := by
      rw [List.flatMap_cons, List.flatMap_nil, List.append_nil] at ht2
      exact ht2
    by_cases hroom : l0.length + 1 ≤ cap
    · exact impl_Entry_171.shift l0 x w0 w P0_ P2_ g cap g2 cap2 i l0.length 1 (i + 1) (l0.length + 1) cur cur2 hB hbg hok hne hg hm hs ht hg2 hs2 hn2 ht2' rfl rfl hin hnc rfl rfl h2 hroom
    · exact impl_Entry_171.grow l0 x w0 w P0_ P2_ g cap g2 cap2 i l0.length 1 (i + 1) (l0.length + 1) cur cur2 hB hbg hok hne hg hm hs ht hg2 hs2 hn2 ht2' rfl rfl hin hnc rfl rfl h2 (by omega)
end Go.Proofs.Ytcpljigliklgcaa.Q
end

section
namespace Go.Proofs.Ytcpljigliklgcaa.Q
open Go.RowKit Go.Proofs.YtcpljigliklgcaaW.PrintWords Go.Proofs.YtcpljigliklgcaaW.PrintLast Go.Proofs.YtcpljigliklgcaaW.PrintMore
attribute [local go_sem] max2_int min2_int max_two min_two max_three min_three max_four min_four   -- for this text's walks alone
set_option linter.unusedVariables false
set_option linter.unusedSimpArgs false
attribute [local go_sem] bin_leq bin_gtr bin_geq
def impl_edited.l0 : Nat → List (S51) → List (S134) → Int → Int → Option ((List (S51)))
  | 0, _, _, _, _ => none
  | k + 1, x5, x12, x13, x14 => if x14 < x13 then (if 0 ≤ x14 then (if x14 < (x12.length : Int) then ((impl_find.f x5 ((rd_T134 x12 x14).f0)).bind fun bt182 => (if bt182.2 = true then ((impl_Entry_170.f x5 bt182.1 (wrap64 (bt182.1 + 1))).bind fun t184 => (if ((rd_T134 x12 x14).f2 = true) then (impl_edited.l0 k t184 x12 x13 (wrap64 (x14 + 1))) else ((impl_Entry_171.f t184 bt182.1 (([(⟨(rd_T134 x12 x14).f0, (rd_T134 x12 x14).f1⟩ : S51)] : List (S51)))).bind fun t190 => (impl_edited.l0 k t190 x12 x13 (wrap64 (x14 + 1)))))) else (if ((rd_T134 x12 x14).f2 = true) then (impl_edited.l0 k x5 x12 x13 (wrap64 (x14 + 1))) else ((impl_Entry_171.f x5 bt182.1 (([(⟨(rd_T134 x12 x14).f0, (rd_T134 x12 x14).f1⟩ : S51)] : List (S51)))).bind fun t196 => (impl_edited.l0 k t196 x12 x13 (wrap64 (x14 + 1))))))) else (none)) else (none)) else (some x5)
def impl_edited.f (k : Nat) (l0 : List (S51)) (l1 : List (S134)) : Option ((List (S51))) := (impl_Entry_94.f l0).bind fun t177 => (impl_edited.l0 k t177 l1 (l1.length : Int) 0)
set_option maxHeartbeats 8000000 in
set_option maxRecDepth 100000 in
theorem impl_edited.calls (k : Nat) (A0 : Option Addr) (c0 : Nat) (l0 : List (S51)) (A1 : Option Addr) (c1 : Nat) (l1 : List (S134)) (r : List (S51)) (w : World) (hr0 : Kd.C k51 w A0 l0.length l0) (hc0 : l0.length ≤ c0) (hr1 : Kd.C k134 w A1 l1.length l1) (hc1 : l1.length ≤ c1) (h : impl_edited.f k l0 l1 = some r) :
    Calls Try.prog 88 #[.slice A0 l0.length c0, .slice A1 l1.length c1] w fun e w' => ∃ v0_ : Value, e = .returned (v0_) ∧ Kd.R k51 51 w' w.heap.size (fun _ => True) v0_ r ∧ Below w.heap.size w w' := by
  have hu134 := Try.underlying134
  have hu51 := Try.underlying51
  have HR0 := Aside0.mk hr0
  have HC0 := Aside0.mk hc0
  clear hr0 hc0
  have HR1 := Aside0.mk hr1
  have HC1 := Aside0.mk hc1
  clear hr1 hc1
  have HB := Aside0.mk (Below.refl w.heap.size w)
  have H : ((impl_Entry_94.f l0).bind fun t177 => (impl_edited.l0 k t177 l1 (l1.length : Int) 0)) = some r := h
  clear h
  replace H := Option.bind_eq_some_iff.mp H
  obtain ⟨t177, A30, H⟩ := H
  replace H : (impl_edited.l0 k t177 l1 (l1.length : Int) 0) = some r := H
  have A3 := Aside0.mk A30
  clear A30
  have H' := Aside0.mk H
  clear H
  go_enter Try.func88, Try.ntmps88
  go_wp2_with (first | ((with_reducible refine gate_callee (f := 94) rfl ?_); refine goesL_ (some 11) rfl rfl Try.func94 (by kernel_rfl) rfl #[.slice A0 l0.length c0] rfl gA ?_; (with_reducible refine (impl_Entry_94.calls _ _ l0 t177 _ ?side1 ?side2 A3.out).mono ?_); (case side1 => exact cN HR0); (case side2 => exact HC0.out); rintro e w4 ⟨v178, rfl, ho0, hb⟩; refine ⟨_, rfl, ?_⟩; have n0_ := Aside0.mk (Kd.R_lower ho0 (below_size (w := w) bW)); have n1_ := Aside0.mk (below_step (w := w) bW hb); clear HB; have HO179 := n0_; have HB := n1_; clear n0_ n1_; (try clear hb); (try clear hb2); (try clear hk); (try clear hi); (try clear ho0)))
  go_loopg [5, 14] k (fun kq v5 v14 w' => ∃ (x5_1 : List (S51)) (x14_1 : Int), v14 = .int .i64 x14_1 ∧ Aside0 (impl_edited.l0 kq x5_1 l1 (l1.length : Int) x14_1 = some r) ∧ Aside0 (kq ≤ k) ∧ Aside0 (Kd.R k51 51 w' w.heap.size (fun _ => True) v5 x5_1) ∧ Aside0 (Below w.heap.size w w'))
  case atStart => exact ⟨(t177), (0), vE, H', ⟨Nat.le_refl _⟩, ⟨by (with_reducible repeat (first | apply Kd.R_alloc | apply Kd.R_drewN | apply Kd.R_drew)); exact HO179.out⟩, ⟨bW⟩⟩
  case round =>
    clear H'
    try clear c1
    try clear p2
    obtain ⟨x5_1, x14_1, rfl, HA, HK1, HO_5, HB⟩ := hrel
    cases gk with
    | zero => exact absurd HA.out (by simp [impl_edited.l0])
    | succ k1 =>
      have H := HA.out
      clear HA
      simp only [impl_edited.l0] at H
      by_cases c5 : x14_1 < (l1.length : Int)
      · rw [if_pos c5] at H
        have c5b0 : decide (x14_1 < (l1.length : Int)) = true := decide_eq_true c5
        clear c5
        by_cases c6 : 0 ≤ x14_1
        · rw [if_pos c6] at H
          have c6b0 : decide (0 ≤ x14_1) = true := decide_eq_true c6
          clear c6
          by_cases c7 : x14_1 < (l1.length : Int)
          · rw [if_pos c7] at H
            have c7b0 : decide (x14_1 < (l1.length : Int)) = true := decide_eq_true c7
            clear c7
            replace H := Option.bind_eq_some_iff.mp H
            obtain ⟨⟨t182, t183⟩, A80, H⟩ := H
            replace H : (if t183 = true then ((impl_Entry_170.f x5_1 t182 (wrap64 (t182 + 1))).bind fun t184 => (if ((rd_T134 l1 x14_1).f2 = true) then (impl_edited.l0 k1 t184 l1 (l1.length : Int) (wrap64 (x14_1 + 1))) else ((impl_Entry_171.f t184 t182 (([(⟨(rd_T134 l1 x14_1).f0, (rd_T134 l1 x14_1).f1⟩ : S51)] : List (S51)))).bind fun t190 => (impl_edited.l0 k1 t190 l1 (l1.length : Int) (wrap64 (x14_1 + 1)))))) else (if ((rd_T134 l1 x14_1).f2 = true) then (impl_edited.l0 k1 x5_1 l1 (l1.length : Int) (wrap64 (x14_1 + 1))) else ((impl_Entry_171.f x5_1 t182 (([(⟨(rd_T134 l1 x14_1).f0, (rd_T134 l1 x14_1).f1⟩ : S51)] : List (S51)))).bind fun t196 => (impl_edited.l0 k1 t196 l1 (l1.length : Int) (wrap64 (x14_1 + 1)))))) = some r := H
            have A8 := Aside0.mk A80
            clear A80
            by_cases c9 : t183 = true
            · subst c9
              have H1 : ((impl_Entry_170.f x5_1 t182 (wrap64 (t182 + 1))).bind fun t184 => (if ((rd_T134 l1 x14_1).f2 = true) then (impl_edited.l0 k1 t184 l1 (l1.length : Int) (wrap64 (x14_1 + 1))) else ((impl_Entry_171.f t184 t182 (([(⟨(rd_T134 l1 x14_1).f0, (rd_T134 l1 x14_1).f1⟩ : S51)] : List (S51)))).bind fun t190 => (impl_edited.l0 k1 t190 l1 (l1.length : Int) (wrap64 (x14_1 + 1)))))) = some r := by rw [if_pos rfl] at H; exact H
              clear H
              have H := H1
              clear H1
              replace H := Option.bind_eq_some_iff.mp H
              obtain ⟨t184, A100, H⟩ := H
              replace H : (if ((rd_T134 l1 x14_1).f2 = true) then (impl_edited.l0 k1 t184 l1 (l1.length : Int) (wrap64 (x14_1 + 1))) else ((impl_Entry_171.f t184 t182 (([(⟨(rd_T134 l1 x14_1).f0, (rd_T134 l1 x14_1).f1⟩ : S51)] : List (S51)))).bind fun t190 => (impl_edited.l0 k1 t190 l1 (l1.length : Int) (wrap64 (x14_1 + 1))))) = some r := H
              have A10 := Aside0.mk A100
              clear A100
              obtain ⟨bq11, hbq11⟩ : ∃ b_ : Bool, b_ = ((rd_T134 l1 x14_1).f2) := ⟨_, rfl⟩
              replace H : (if (bq11 = true) then (impl_edited.l0 k1 t184 l1 (l1.length : Int) (wrap64 (x14_1 + 1))) else ((impl_Entry_171.f t184 t182 (([(⟨(rd_T134 l1 x14_1).f0, (rd_T134 l1 x14_1).f1⟩ : S51)] : List (S51)))).bind fun t190 => (impl_edited.l0 k1 t190 l1 (l1.length : Int) (wrap64 (x14_1 + 1))))) = some r := by rw [← hbq11] at H; exact H
              have Nbq11 := Aside0.mk hbq11
              clear hbq11
              by_cases c12 : (bq11 = true)
              · subst c12
                have H1 : (impl_edited.l0 k1 t184 l1 (l1.length : Int) (wrap64 (x14_1 + 1))) = some r := by rw [if_pos rfl] at H; exact H
                clear H
                have H := H1
                clear H1
                have H' := Aside0.mk H
                clear H
                have p180 : 0 ≤ (x14_1 : Int) := odt
                have q180 : x14_1 < (l1.length : Int) := odt
                obtain ⟨ad180, e180, hx180_0, hx180_1, hx180_2⟩ := at_T134 HR1.out x14_1 p180 q180
                (try rw [← Nbq11.out] at hx180_2)
                cases e180
                replace hx180_0 := (HB.out.cell (World.block_lt_of_cell? w _ hx180_0)).trans hx180_0
                replace hx180_1 := (HB.out.cell (World.block_lt_of_cell? w _ hx180_1)).trans hx180_1
                replace hx180_2 := (HB.out.cell (World.block_lt_of_cell? w _ hx180_2)).trans hx180_2
                replace p180 := eq_true p180
                replace q180 := eq_true q180
                go_wp2_with (first | ((with_reducible refine gate_dst (N := 7) rfl ?_); refine bE (N := 7) (cs := #[.string (⟨#[]⟩ : ByteArray), .int .i64 0, .bool false]) (t := 134) ?_; intro gb181 hg w13 hbox hb; have n0_ := Aside0.mk (Kd.R_below (pR HO_5) hb); have n1_ := Aside0.mk (below_step (w := w) bW hb); have n2_ := Aside0.mk (hbox); have n3_ := Aside0.mk (gS (w := w) hg); have n4_ := n3_; clear HO_5; clear HB; have HO_5 := n0_; have HB := n1_; have BK181 := n2_; have GW181 := n3_; have GE181 := n4_; clear n0_ n1_ n2_ n3_ n4_; clear hb hbox hg; obtain ⟨hcz14_0, hcz14_1, hcz14_2⟩ := cz3 BK181; obtain ⟨hfz14_0, hfz14_1, hfz14_2⟩ := fz3 BK181; obtain ⟨Ao15, co15, eo15⟩ := Kd.R_slice HO_5.out; subst eo15) | ((with_reducible refine gate_callee (f := 93) rfl ?_); refine goesL_ (some 22) rfl rfl Try.func93 (by kernel_rfl) rfl #[.slice Ao15 x5_1.length co15, .string ((rd_T134 l1 x14_1).f0)] rfl gA ?_; (with_reducible refine (impl_find.calls _ _ x5_1 ((rd_T134 l1 x14_1).f0) t182 true _ ?side1 ?side2 A8.out).mono ?_); (case side1 => refine (Kd.R_reads' (e := 51) (base := w.heap.size) (ok := fun k_ => True) (n := x5_1.length) (c := co15) ?_).2.2; exact (by (with_reducible repeat (first | apply Kd.R_alloc | apply Kd.R_drewN | apply Kd.R_drew)); exact (Kd.R_mono (Kd.R_far (p := ⟨gb181, 2, none⟩) (Kd.R_far (p := ⟨gb181, 1, none⟩) (Kd.R_far (p := ⟨gb181, 0, none⟩) (Kd.R_types HO_5.out BK181.out (by decide)) (fun _ hk => hk.2) (.string ((rd_T134 l1 x14_1).f0))) (fun _ hk => hk.2) (.int .i64 ((rd_T134 l1 x14_1).f1))) (fun _ hk => hk.2) (.bool true)) (fun _ h_ => h_.1)))); (case side2 => exact (Kd.R_reads' HO_5.out).2.1); rintro e w16 ⟨rfl, hb⟩; refine ⟨_, rfl, ?_⟩; have n0_ := Aside0.mk (Kd.R_below (by (with_reducible repeat (first | apply Kd.R_alloc | apply Kd.R_drewN | apply Kd.R_drew)); exact (Kd.R_mono (Kd.R_far (p := ⟨gb181, 2, none⟩) (Kd.R_far (p := ⟨gb181, 1, none⟩) (Kd.R_far (p := ⟨gb181, 0, none⟩) (Kd.R_types HO_5.out BK181.out (by decide)) (fun _ hk => hk.2) (.string ((rd_T134 l1 x14_1).f0))) (fun _ hk => hk.2) (.int .i64 ((rd_T134 l1 x14_1).f1))) (fun _ hk => hk.2) (.bool true)) (fun _ h_ => h_.1))) hb); have n1_ := Aside0.mk (blk_below (g := gb181) (o := .cells #[.string ((rd_T134 l1 x14_1).f0), .int .i64 ((rd_T134 l1 x14_1).f1), .bool true] 134 (0, 0)) (by (with_reducible repeat (first | refine blk_drewN ?_ _ | refine blk_drew ?_ | refine blk_alloc ?_ _)); refine blk_put (cs := #[.string ((rd_T134 l1 x14_1).f0), .int .i64 ((rd_T134 l1 x14_1).f1), .bool false]) ?_ 2 _ rfl; (with_reducible repeat (first | refine blk_drewN ?_ _ | refine blk_drew ?_ | refine blk_alloc ?_ _)); refine blk_put (cs := #[.string ((rd_T134 l1 x14_1).f0), .int .i64 0, .bool false]) ?_ 1 _ rfl; (with_reducible repeat (first | refine blk_drewN ?_ _ | refine blk_drew ?_ | refine blk_alloc ?_ _)); refine blk_put (cs := #[.string (⟨#[]⟩ : ByteArray), .int .i64 0, .bool false]) ?_ 0 _ rfl; (with_reducible repeat (first | refine blk_drewN ?_ _ | refine blk_drew ?_ | refine blk_alloc ?_ _)); exact BK181.out) hb); have n2_ := Aside0.mk (below_step (w := w) bW hb); clear HO_5; clear BK181; clear HB; have HO_5 := n0_; have BK181 := n1_; have HB := n2_; clear n0_ n1_ n2_; (try clear hb); (try clear hb2); (try clear hk); (try clear hi)) | ((with_reducible refine gate_callee (f := 170) rfl ?_); refine goesL_ (some 30) rfl rfl Try.func170 (by kernel_rfl) rfl #[.slice Ao15 x5_1.length co15, .int .i64 t182, .int .i64 (wrap64 (t182 + 1))] rfl gA ?_; (with_reducible refine (impl_Entry_170.calls (fun k_ => some k_ = (.slice Ao15 x5_1.length co15 : Value).ownBlock) (.slice Ao15 x5_1.length co15) x5_1 t182 (wrap64 (t182 + 1)) t184 w _ ?side1 ?side2 A10.out).mono ?_); (case side1 => repeat (first | (with_reducible first | exact HB.out | apply below_alloc | apply pw_below_drewN | apply below_drew1 | refine below_set ?_ GE181.out) | exact HB.out)); (case side2 => exact Kd.R_tight rfl HO_5.out); rintro e w17 ⟨v185, rfl, ho0, hb, hkp⟩; refine ⟨_, rfl, ?_⟩; have n0_ := Aside0.mk (blk_kept (kB BK181) hkp (fun hs_ => (fun e_ => (Kd.R_ne HO_5.out BK181.out (by decide)) e_) hs_)); have n1_ := Aside0.mk (Kd.R_mono (ok' := fun k_ => True) ho0 (fun k_ hk_ => trivial)); have n2_ := Aside0.mk (hb); clear BK181; clear HB; clear HO_5; have BK181 := n0_; have HO186 := n1_; have HB := n2_; clear n0_ n1_ n2_; (try clear hb); (try clear hkp); (try clear ho0); obtain ⟨hcz18_0, hcz18_1, hcz18_2⟩ := cz3 BK181; obtain ⟨hfz18_0, hfz18_1, hfz18_2⟩ := fz3 BK181))
                go_roundg k1
                case measure => have := HK1.out; omega
                case rel => exact ⟨(t184), (wrap64 (x14_1 + 1)), vE, H', ⟨by have := HK1.out; omega⟩, ⟨by (with_reducible repeat (first | apply Kd.R_alloc | apply Kd.R_drewN | apply Kd.R_drew)); exact HO186.out⟩, ⟨bW⟩⟩
              · replace c12 := Bool.eq_false_iff.mpr c12
                subst c12
                have H1 : ((impl_Entry_171.f t184 t182 (([(⟨(rd_T134 l1 x14_1).f0, (rd_T134 l1 x14_1).f1⟩ : S51)] : List (S51)))).bind fun t190 => (impl_edited.l0 k1 t190 l1 (l1.length : Int) (wrap64 (x14_1 + 1)))) = some r := by rw [if_neg (show ¬ (false = true) by decide)] at H; exact H
                clear H
                have H := H1
                clear H1
                obtain ⟨y187, hy187⟩ : ∃ y_ : List (S51), y_ = (([(⟨(rd_T134 l1 x14_1).f0, (rd_T134 l1 x14_1).f1⟩ : S51)] : List (S51))) := ⟨_, rfl⟩
                replace H : ((impl_Entry_171.f t184 t182 y187).bind fun t190 => (impl_edited.l0 k1 t190 l1 (l1.length : Int) (wrap64 (x14_1 + 1)))) = some r := by first | (rw [hy187]; with_reducible exact H) | (have H2_ := (Option.bind_some _ _).symm.trans H; rw [hy187]; with_reducible exact H2_) | (have H2_ := (Option.bind_some _ _).symm.trans H; with_reducible exact H2_) | with_reducible exact H | (rw [hy187]; exact H) | exact H
                have Ny187 := Aside0.mk hy187
                clear hy187
                replace H := Option.bind_eq_some_iff.mp H
                obtain ⟨t190, A190, H⟩ := H
                replace H : (impl_edited.l0 k1 t190 l1 (l1.length : Int) (wrap64 (x14_1 + 1))) = some r := H
                have A19 := Aside0.mk A190
                clear A190
                have H' := Aside0.mk H
                clear H
                have p180 : 0 ≤ (x14_1 : Int) := odt
                have q180 : x14_1 < (l1.length : Int) := odt
                obtain ⟨ad180, e180, hx180_0, hx180_1, hx180_2⟩ := at_T134 HR1.out x14_1 p180 q180
                (try rw [← Nbq11.out] at hx180_2)
                cases e180
                replace hx180_0 := (HB.out.cell (World.block_lt_of_cell? w _ hx180_0)).trans hx180_0
                replace hx180_1 := (HB.out.cell (World.block_lt_of_cell? w _ hx180_1)).trans hx180_1
                replace hx180_2 := (HB.out.cell (World.block_lt_of_cell? w _ hx180_2)).trans hx180_2
                replace p180 := eq_true p180
                replace q180 := eq_true q180
                go_wp2_with (first | ((with_reducible refine gate_dst (N := 7) rfl ?_); refine bE (N := 7) (cs := #[.string (⟨#[]⟩ : ByteArray), .int .i64 0, .bool false]) (t := 134) ?_; intro gb181 hg w20 hbox hb; have n0_ := Aside0.mk (Kd.R_below (pR HO_5) hb); have n1_ := Aside0.mk (below_step (w := w) bW hb); have n2_ := Aside0.mk (hbox); have n3_ := Aside0.mk (gS (w := w) hg); have n4_ := n3_; clear HO_5; clear HB; have HO_5 := n0_; have HB := n1_; have BK181 := n2_; have GW181 := n3_; have GE181 := n4_; clear n0_ n1_ n2_ n3_ n4_; clear hb hbox hg; obtain ⟨hcz21_0, hcz21_1, hcz21_2⟩ := cz3 BK181; obtain ⟨hfz21_0, hfz21_1, hfz21_2⟩ := fz3 BK181; obtain ⟨Ao22, co22, eo22⟩ := Kd.R_slice HO_5.out; subst eo22) | ((with_reducible refine gate_callee (f := 93) rfl ?_); refine goesL_ (some 22) rfl rfl Try.func93 (by kernel_rfl) rfl #[.slice Ao22 x5_1.length co22, .string ((rd_T134 l1 x14_1).f0)] rfl gA ?_; (with_reducible refine (impl_find.calls _ _ x5_1 ((rd_T134 l1 x14_1).f0) t182 true _ ?side1 ?side2 A8.out).mono ?_); (case side1 => refine (Kd.R_reads' (e := 51) (base := w.heap.size) (ok := fun k_ => True) (n := x5_1.length) (c := co22) ?_).2.2; exact (by (with_reducible repeat (first | apply Kd.R_alloc | apply Kd.R_drewN | apply Kd.R_drew)); exact (Kd.R_mono (Kd.R_far (p := ⟨gb181, 2, none⟩) (Kd.R_far (p := ⟨gb181, 1, none⟩) (Kd.R_far (p := ⟨gb181, 0, none⟩) (Kd.R_types HO_5.out BK181.out (by decide)) (fun _ hk => hk.2) (.string ((rd_T134 l1 x14_1).f0))) (fun _ hk => hk.2) (.int .i64 ((rd_T134 l1 x14_1).f1))) (fun _ hk => hk.2) (.bool false)) (fun _ h_ => h_.1)))); (case side2 => exact (Kd.R_reads' HO_5.out).2.1); rintro e w23 ⟨rfl, hb⟩; refine ⟨_, rfl, ?_⟩; have n0_ := Aside0.mk (Kd.R_below (by (with_reducible repeat (first | apply Kd.R_alloc | apply Kd.R_drewN | apply Kd.R_drew)); exact (Kd.R_mono (Kd.R_far (p := ⟨gb181, 2, none⟩) (Kd.R_far (p := ⟨gb181, 1, none⟩) (Kd.R_far (p := ⟨gb181, 0, none⟩) (Kd.R_types HO_5.out BK181.out (by decide)) (fun _ hk => hk.2) (.string ((rd_T134 l1 x14_1).f0))) (fun _ hk => hk.2) (.int .i64 ((rd_T134 l1 x14_1).f1))) (fun _ hk => hk.2) (.bool false)) (fun _ h_ => h_.1))) hb); have n1_ := Aside0.mk (blk_below (g := gb181) (o := .cells #[.string ((rd_T134 l1 x14_1).f0), .int .i64 ((rd_T134 l1 x14_1).f1), .bool false] 134 (0, 0)) (by (with_reducible repeat (first | refine blk_drewN ?_ _ | refine blk_drew ?_ | refine blk_alloc ?_ _)); refine blk_put (cs := #[.string ((rd_T134 l1 x14_1).f0), .int .i64 ((rd_T134 l1 x14_1).f1), .bool false]) ?_ 2 _ rfl; (with_reducible repeat (first | refine blk_drewN ?_ _ | refine blk_drew ?_ | refine blk_alloc ?_ _)); refine blk_put (cs := #[.string ((rd_T134 l1 x14_1).f0), .int .i64 0, .bool false]) ?_ 1 _ rfl; (with_reducible repeat (first | refine blk_drewN ?_ _ | refine blk_drew ?_ | refine blk_alloc ?_ _)); refine blk_put (cs := #[.string (⟨#[]⟩ : ByteArray), .int .i64 0, .bool false]) ?_ 0 _ rfl; (with_reducible repeat (first | refine blk_drewN ?_ _ | refine blk_drew ?_ | refine blk_alloc ?_ _)); exact BK181.out) hb); have n2_ := Aside0.mk (below_step (w := w) bW hb); clear HO_5; clear BK181; clear HB; have HO_5 := n0_; have BK181 := n1_; have HB := n2_; clear n0_ n1_ n2_; (try clear hb); (try clear hb2); (try clear hk); (try clear hi)) | ((with_reducible refine gate_callee (f := 170) rfl ?_); refine goesL_ (some 30) rfl rfl Try.func170 (by kernel_rfl) rfl #[.slice Ao22 x5_1.length co22, .int .i64 t182, .int .i64 (wrap64 (t182 + 1))] rfl gA ?_; (with_reducible refine (impl_Entry_170.calls (fun k_ => some k_ = (.slice Ao22 x5_1.length co22 : Value).ownBlock) (.slice Ao22 x5_1.length co22) x5_1 t182 (wrap64 (t182 + 1)) t184 w _ ?side1 ?side2 A10.out).mono ?_); (case side1 => repeat (first | (with_reducible first | exact HB.out | apply below_alloc | apply pw_below_drewN | apply below_drew1 | refine below_set ?_ GE181.out) | exact HB.out)); (case side2 => exact Kd.R_tight rfl HO_5.out); rintro e w24 ⟨v185, rfl, ho0, hb, hkp⟩; refine ⟨_, rfl, ?_⟩; have n0_ := Aside0.mk (blk_kept (kB BK181) hkp (fun hs_ => (fun e_ => (Kd.R_ne HO_5.out BK181.out (by decide)) e_) hs_)); have n1_ := Aside0.mk (Kd.R_mono (ok' := fun k_ => True) ho0 (fun k_ hk_ => trivial)); have n2_ := Aside0.mk (hb); clear BK181; clear HB; clear HO_5; have BK181 := n0_; have HO186 := n1_; have HB := n2_; clear n0_ n1_ n2_; (try clear hb); (try clear hkp); (try clear ho0); obtain ⟨hcz25_0, hcz25_1, hcz25_2⟩ := cz3 BK181; obtain ⟨hfz25_0, hfz25_1, hfz25_2⟩ := fz3 BK181) | ((with_reducible refine gate_dst (N := 41) rfl ?_); refine Kd.R_lit k51 _ 51 ?hg (N := 41) ?hd (xs := ([(⟨(rd_T134 l1 x14_1).f0, (rd_T134 l1 x14_1).f1⟩ : S51)] : List (S51))) (inner := [.string ((rd_T134 l1 x14_1).f0), .int .i64 ((rd_T134 l1 x14_1).f1)]) (ok := fun _ => True) (okp := fun _ => True) ?hr ?hp (fun _ hk => hk) trivial (Below.refl _ _) (Nat.le_refl _) (by simp) ?_; (case hd => rfl); (case hg => rfl); (case hr => first | (go_simp; done) | (go_simp; rfl)); (case hp => exact (Reps.c2 (show Kd.M k51 _ _ _ (⟨(rd_T134 l1 x14_1).f0, (rd_T134 l1 x14_1).f1⟩ : S51) [.string ((rd_T134 l1 x14_1).f0), .int .i64 ((rd_T134 l1 x14_1).f1)] from (k51_mkM _ _ _ (⟨(rd_T134 l1 x14_1).f0, (rd_T134 l1 x14_1).f1⟩ : S51) )) (Reps.none _ _))); intro v188 w26 ho27 hb hg_ hnew_; clear hg_ hnew_; (first | rw [← Ny187.out] at ho27 | (simp only [Int.reduceToNat] at ho27; rw [← Ny187.out] at ho27)); have n0_ := Aside0.mk (Kd.R_elder' (pR HO186) (Kd.R_base ho27) hb); have n1_ := Aside0.mk (Kd.R_lower (Kd.R_new' ho27 (Kd.R_lt (pR HO186))) (below_size (w := w) bW)); have n2_ := Aside0.mk (kb BK181 hb); have n3_ := Aside0.mk (below_step (w := w) bW hb); clear HO186; clear BK181; clear HB; have HO186 := n0_; have HO189 := n1_; have BK181 := n2_; have HB := n3_; clear n0_ n1_ n2_ n3_; clear hb ho27; obtain ⟨Ao28, co28, eo28⟩ := Kd.R_slice HO186.out; subst eo28; obtain ⟨Ao29, co29, eo29⟩ := Kd.R_slice HO189.out; subst eo29) | ((with_reducible refine gate_callee (f := 171) rfl ?_); refine goesL_ (some 42) rfl rfl Try.func171 (by kernel_rfl) rfl #[.slice Ao28 t184.length co28, .int .i64 t182, .slice Ao29 y187.length co29] rfl gA ?_; (with_reducible refine (impl_Entry_171.calls (fun k_ => some k_ = (.slice Ao28 t184.length co28 : Value).ownBlock) (.slice Ao28 t184.length co28) t184 t182 (fun k_ => some k_ = (.slice Ao29 y187.length co29 : Value).ownBlock) (.slice Ao29 y187.length co29) y187 t190 w _ ?side1 ?side2 ?side3 ?side4 ?side5 A19.out).mono ?_); (case side1 => repeat (first | (with_reducible first | exact HB.out | apply below_alloc | apply pw_below_drewN | apply below_drew1 | refine below_set ?_ GE181.out) | exact HB.out)); (case side2 => exact Kd.R_tight rfl HO186.out); (case side3 => exact fun k_ e_ => (HO186.out.1 k_ e_.symm).2); (case side4 => exact Kd.R_tight rfl HO189.out); (case side5 => exact fun k_ e_ => (HO189.out.1 k_ e_.symm).2); rintro e w30 ⟨v191, rfl, ho0, hb, hkp⟩; refine ⟨_, rfl, ?_⟩; have n0_ := Aside0.mk (blk_kept (kB BK181) hkp (fun hs_ => Or.elim hs_ (fun e_ => (fun e_ => (Kd.R_ne HO186.out BK181.out (by decide)) e_) e_) (fun e_ => (fun e_ => (Kd.R_ne HO189.out BK181.out (by decide)) e_) e_))); have n1_ := Aside0.mk (Kd.R_mono (ok' := fun k_ => True) ho0 (fun k_ hk_ => trivial)); have n2_ := Aside0.mk (hb); clear BK181; clear HB; clear HO186; clear HO189; have BK181 := n0_; have HO192 := n1_; have HB := n2_; clear n0_ n1_ n2_; (try clear hb); (try clear hkp); (try clear ho0)))
                go_roundg k1
                case measure => have := HK1.out; omega
                case rel => exact ⟨(t190), (wrap64 (x14_1 + 1)), vE, H', ⟨by have := HK1.out; omega⟩, ⟨by (with_reducible repeat (first | apply Kd.R_alloc | apply Kd.R_drewN | apply Kd.R_drew)); exact HO192.out⟩, ⟨bW⟩⟩
            · replace c9 := Bool.eq_false_iff.mpr c9
              subst c9
              have H1 : (if ((rd_T134 l1 x14_1).f2 = true) then (impl_edited.l0 k1 x5_1 l1 (l1.length : Int) (wrap64 (x14_1 + 1))) else ((impl_Entry_171.f x5_1 t182 (([(⟨(rd_T134 l1 x14_1).f0, (rd_T134 l1 x14_1).f1⟩ : S51)] : List (S51)))).bind fun t196 => (impl_edited.l0 k1 t196 l1 (l1.length : Int) (wrap64 (x14_1 + 1))))) = some r := by rw [if_neg (show ¬ (false = true) by decide)] at H; exact H
              clear H
              have H := H1
              clear H1
              obtain ⟨bq31, hbq31⟩ : ∃ b_ : Bool, b_ = ((rd_T134 l1 x14_1).f2) := ⟨_, rfl⟩
              replace H : (if (bq31 = true) then (impl_edited.l0 k1 x5_1 l1 (l1.length : Int) (wrap64 (x14_1 + 1))) else ((impl_Entry_171.f x5_1 t182 (([(⟨(rd_T134 l1 x14_1).f0, (rd_T134 l1 x14_1).f1⟩ : S51)] : List (S51)))).bind fun t196 => (impl_edited.l0 k1 t196 l1 (l1.length : Int) (wrap64 (x14_1 + 1))))) = some r := by rw [← hbq31] at H; exact H
              have Nbq31 := Aside0.mk hbq31
              clear hbq31
              by_cases c32 : (bq31 = true)
              · subst c32
                have H1 : (impl_edited.l0 k1 x5_1 l1 (l1.length : Int) (wrap64 (x14_1 + 1))) = some r := by rw [if_pos rfl] at H; exact H
                clear H
                have H := H1
                clear H1
                have H' := Aside0.mk H
                clear H
                have p180 : 0 ≤ (x14_1 : Int) := odt
                have q180 : x14_1 < (l1.length : Int) := odt
                obtain ⟨ad180, e180, hx180_0, hx180_1, hx180_2⟩ := at_T134 HR1.out x14_1 p180 q180
                (try rw [← Nbq31.out] at hx180_2)
                cases e180
                replace hx180_0 := (HB.out.cell (World.block_lt_of_cell? w _ hx180_0)).trans hx180_0
                replace hx180_1 := (HB.out.cell (World.block_lt_of_cell? w _ hx180_1)).trans hx180_1
                replace hx180_2 := (HB.out.cell (World.block_lt_of_cell? w _ hx180_2)).trans hx180_2
                replace p180 := eq_true p180
                replace q180 := eq_true q180
                go_wp2_with (first | ((with_reducible refine gate_dst (N := 7) rfl ?_); refine bE (N := 7) (cs := #[.string (⟨#[]⟩ : ByteArray), .int .i64 0, .bool false]) (t := 134) ?_; intro gb181 hg w33 hbox hb; have n0_ := Aside0.mk (Kd.R_below (pR HO_5) hb); have n1_ := Aside0.mk (below_step (w := w) bW hb); have n2_ := Aside0.mk (hbox); have n3_ := Aside0.mk (gS (w := w) hg); have n4_ := n3_; clear HO_5; clear HB; have HO_5 := n0_; have HB := n1_; have BK181 := n2_; have GW181 := n3_; have GE181 := n4_; clear n0_ n1_ n2_ n3_ n4_; clear hb hbox hg; obtain ⟨hcz34_0, hcz34_1, hcz34_2⟩ := cz3 BK181; obtain ⟨hfz34_0, hfz34_1, hfz34_2⟩ := fz3 BK181; obtain ⟨Ao35, co35, eo35⟩ := Kd.R_slice HO_5.out; subst eo35) | ((with_reducible refine gate_callee (f := 93) rfl ?_); refine goesL_ (some 22) rfl rfl Try.func93 (by kernel_rfl) rfl #[.slice Ao35 x5_1.length co35, .string ((rd_T134 l1 x14_1).f0)] rfl gA ?_; (with_reducible refine (impl_find.calls _ _ x5_1 ((rd_T134 l1 x14_1).f0) t182 false _ ?side1 ?side2 A8.out).mono ?_); (case side1 => refine (Kd.R_reads' (e := 51) (base := w.heap.size) (ok := fun k_ => True) (n := x5_1.length) (c := co35) ?_).2.2; exact (by (with_reducible repeat (first | apply Kd.R_alloc | apply Kd.R_drewN | apply Kd.R_drew)); exact (Kd.R_mono (Kd.R_far (p := ⟨gb181, 2, none⟩) (Kd.R_far (p := ⟨gb181, 1, none⟩) (Kd.R_far (p := ⟨gb181, 0, none⟩) (Kd.R_types HO_5.out BK181.out (by decide)) (fun _ hk => hk.2) (.string ((rd_T134 l1 x14_1).f0))) (fun _ hk => hk.2) (.int .i64 ((rd_T134 l1 x14_1).f1))) (fun _ hk => hk.2) (.bool true)) (fun _ h_ => h_.1)))); (case side2 => exact (Kd.R_reads' HO_5.out).2.1); rintro e w36 ⟨rfl, hb⟩; refine ⟨_, rfl, ?_⟩; have n0_ := Aside0.mk (Kd.R_below (by (with_reducible repeat (first | apply Kd.R_alloc | apply Kd.R_drewN | apply Kd.R_drew)); exact (Kd.R_mono (Kd.R_far (p := ⟨gb181, 2, none⟩) (Kd.R_far (p := ⟨gb181, 1, none⟩) (Kd.R_far (p := ⟨gb181, 0, none⟩) (Kd.R_types HO_5.out BK181.out (by decide)) (fun _ hk => hk.2) (.string ((rd_T134 l1 x14_1).f0))) (fun _ hk => hk.2) (.int .i64 ((rd_T134 l1 x14_1).f1))) (fun _ hk => hk.2) (.bool true)) (fun _ h_ => h_.1))) hb); have n1_ := Aside0.mk (blk_below (g := gb181) (o := .cells #[.string ((rd_T134 l1 x14_1).f0), .int .i64 ((rd_T134 l1 x14_1).f1), .bool true] 134 (0, 0)) (by (with_reducible repeat (first | refine blk_drewN ?_ _ | refine blk_drew ?_ | refine blk_alloc ?_ _)); refine blk_put (cs := #[.string ((rd_T134 l1 x14_1).f0), .int .i64 ((rd_T134 l1 x14_1).f1), .bool false]) ?_ 2 _ rfl; (with_reducible repeat (first | refine blk_drewN ?_ _ | refine blk_drew ?_ | refine blk_alloc ?_ _)); refine blk_put (cs := #[.string ((rd_T134 l1 x14_1).f0), .int .i64 0, .bool false]) ?_ 1 _ rfl; (with_reducible repeat (first | refine blk_drewN ?_ _ | refine blk_drew ?_ | refine blk_alloc ?_ _)); refine blk_put (cs := #[.string (⟨#[]⟩ : ByteArray), .int .i64 0, .bool false]) ?_ 0 _ rfl; (with_reducible repeat (first | refine blk_drewN ?_ _ | refine blk_drew ?_ | refine blk_alloc ?_ _)); exact BK181.out) hb); have n2_ := Aside0.mk (below_step (w := w) bW hb); clear HO_5; clear BK181; clear HB; have HO_5 := n0_; have BK181 := n1_; have HB := n2_; clear n0_ n1_ n2_; (try clear hb); (try clear hb2); (try clear hk); (try clear hi); obtain ⟨hcz37_0, hcz37_1, hcz37_2⟩ := cz3 BK181; obtain ⟨hfz37_0, hfz37_1, hfz37_2⟩ := fz3 BK181))
                go_roundg k1
                case measure => have := HK1.out; omega
                case rel => exact ⟨(x5_1), (wrap64 (x14_1 + 1)), vE, H', ⟨by have := HK1.out; omega⟩, ⟨by (with_reducible repeat (first | apply Kd.R_alloc | apply Kd.R_drewN | apply Kd.R_drew)); exact HO_5.out⟩, ⟨bW⟩⟩
              · replace c32 := Bool.eq_false_iff.mpr c32
                subst c32
                have H1 : ((impl_Entry_171.f x5_1 t182 (([(⟨(rd_T134 l1 x14_1).f0, (rd_T134 l1 x14_1).f1⟩ : S51)] : List (S51)))).bind fun t196 => (impl_edited.l0 k1 t196 l1 (l1.length : Int) (wrap64 (x14_1 + 1)))) = some r := by rw [if_neg (show ¬ (false = true) by decide)] at H; exact H
                clear H
                have H := H1
                clear H1
                obtain ⟨y193, hy193⟩ : ∃ y_ : List (S51), y_ = (([(⟨(rd_T134 l1 x14_1).f0, (rd_T134 l1 x14_1).f1⟩ : S51)] : List (S51))) := ⟨_, rfl⟩
                replace H : ((impl_Entry_171.f x5_1 t182 y193).bind fun t196 => (impl_edited.l0 k1 t196 l1 (l1.length : Int) (wrap64 (x14_1 + 1)))) = some r := by first | (rw [hy193]; with_reducible exact H) | (have H2_ := (Option.bind_some _ _).symm.trans H; rw [hy193]; with_reducible exact H2_) | (have H2_ := (Option.bind_some _ _).symm.trans H; with_reducible exact H2_) | with_reducible exact H | (rw [hy193]; exact H) | exact H
                have Ny193 := Aside0.mk hy193
                clear hy193
                replace H := Option.bind_eq_some_iff.mp H
                obtain ⟨t196, A380, H⟩ := H
                replace H : (impl_edited.l0 k1 t196 l1 (l1.length : Int) (wrap64 (x14_1 + 1))) = some r := H
                have A38 := Aside0.mk A380
                clear A380
                have H' := Aside0.mk H
                clear H
                have p180 : 0 ≤ (x14_1 : Int) := odt
                have q180 : x14_1 < (l1.length : Int) := odt
                obtain ⟨ad180, e180, hx180_0, hx180_1, hx180_2⟩ := at_T134 HR1.out x14_1 p180 q180
                (try rw [← Nbq31.out] at hx180_2)
                cases e180
                replace hx180_0 := (HB.out.cell (World.block_lt_of_cell? w _ hx180_0)).trans hx180_0
                replace hx180_1 := (HB.out.cell (World.block_lt_of_cell? w _ hx180_1)).trans hx180_1
                replace hx180_2 := (HB.out.cell (World.block_lt_of_cell? w _ hx180_2)).trans hx180_2
                replace p180 := eq_true p180
                replace q180 := eq_true q180
                go_wp2_with (first | ((with_reducible refine gate_dst (N := 7) rfl ?_); refine bE (N := 7) (cs := #[.string (⟨#[]⟩ : ByteArray), .int .i64 0, .bool false]) (t := 134) ?_; intro gb181 hg w39 hbox hb; have n0_ := Aside0.mk (Kd.R_below (pR HO_5) hb); have n1_ := Aside0.mk (below_step (w := w) bW hb); have n2_ := Aside0.mk (hbox); have n3_ := Aside0.mk (gS (w := w) hg); have n4_ := n3_; clear HO_5; clear HB; have HO_5 := n0_; have HB := n1_; have BK181 := n2_; have GW181 := n3_; have GE181 := n4_; clear n0_ n1_ n2_ n3_ n4_; clear hb hbox hg; obtain ⟨hcz40_0, hcz40_1, hcz40_2⟩ := cz3 BK181; obtain ⟨hfz40_0, hfz40_1, hfz40_2⟩ := fz3 BK181; obtain ⟨Ao41, co41, eo41⟩ := Kd.R_slice HO_5.out; subst eo41) | ((with_reducible refine gate_callee (f := 93) rfl ?_); refine goesL_ (some 22) rfl rfl Try.func93 (by kernel_rfl) rfl #[.slice Ao41 x5_1.length co41, .string ((rd_T134 l1 x14_1).f0)] rfl gA ?_; (with_reducible refine (impl_find.calls _ _ x5_1 ((rd_T134 l1 x14_1).f0) t182 false _ ?side1 ?side2 A8.out).mono ?_); (case side1 => refine (Kd.R_reads' (e := 51) (base := w.heap.size) (ok := fun k_ => True) (n := x5_1.length) (c := co41) ?_).2.2; exact (by (with_reducible repeat (first | apply Kd.R_alloc | apply Kd.R_drewN | apply Kd.R_drew)); exact (Kd.R_mono (Kd.R_far (p := ⟨gb181, 2, none⟩) (Kd.R_far (p := ⟨gb181, 1, none⟩) (Kd.R_far (p := ⟨gb181, 0, none⟩) (Kd.R_types HO_5.out BK181.out (by decide)) (fun _ hk => hk.2) (.string ((rd_T134 l1 x14_1).f0))) (fun _ hk => hk.2) (.int .i64 ((rd_T134 l1 x14_1).f1))) (fun _ hk => hk.2) (.bool false)) (fun _ h_ => h_.1)))); (case side2 => exact (Kd.R_reads' HO_5.out).2.1); rintro e w42 ⟨rfl, hb⟩; refine ⟨_, rfl, ?_⟩; have n0_ := Aside0.mk (Kd.R_below (by (with_reducible repeat (first | apply Kd.R_alloc | apply Kd.R_drewN | apply Kd.R_drew)); exact (Kd.R_mono (Kd.R_far (p := ⟨gb181, 2, none⟩) (Kd.R_far (p := ⟨gb181, 1, none⟩) (Kd.R_far (p := ⟨gb181, 0, none⟩) (Kd.R_types HO_5.out BK181.out (by decide)) (fun _ hk => hk.2) (.string ((rd_T134 l1 x14_1).f0))) (fun _ hk => hk.2) (.int .i64 ((rd_T134 l1 x14_1).f1))) (fun _ hk => hk.2) (.bool false)) (fun _ h_ => h_.1))) hb); have n1_ := Aside0.mk (blk_below (g := gb181) (o := .cells #[.string ((rd_T134 l1 x14_1).f0), .int .i64 ((rd_T134 l1 x14_1).f1), .bool false] 134 (0, 0)) (by (with_reducible repeat (first | refine blk_drewN ?_ _ | refine blk_drew ?_ | refine blk_alloc ?_ _)); refine blk_put (cs := #[.string ((rd_T134 l1 x14_1).f0), .int .i64 ((rd_T134 l1 x14_1).f1), .bool false]) ?_ 2 _ rfl; (with_reducible repeat (first | refine blk_drewN ?_ _ | refine blk_drew ?_ | refine blk_alloc ?_ _)); refine blk_put (cs := #[.string ((rd_T134 l1 x14_1).f0), .int .i64 0, .bool false]) ?_ 1 _ rfl; (with_reducible repeat (first | refine blk_drewN ?_ _ | refine blk_drew ?_ | refine blk_alloc ?_ _)); refine blk_put (cs := #[.string (⟨#[]⟩ : ByteArray), .int .i64 0, .bool false]) ?_ 0 _ rfl; (with_reducible repeat (first | refine blk_drewN ?_ _ | refine blk_drew ?_ | refine blk_alloc ?_ _)); exact BK181.out) hb); have n2_ := Aside0.mk (below_step (w := w) bW hb); clear HO_5; clear BK181; clear HB; have HO_5 := n0_; have BK181 := n1_; have HB := n2_; clear n0_ n1_ n2_; (try clear hb); (try clear hb2); (try clear hk); (try clear hi); obtain ⟨hcz43_0, hcz43_1, hcz43_2⟩ := cz3 BK181; obtain ⟨hfz43_0, hfz43_1, hfz43_2⟩ := fz3 BK181) | ((with_reducible refine gate_dst (N := 41) rfl ?_); refine Kd.R_lit k51 _ 51 ?hg (N := 41) ?hd (xs := ([(⟨(rd_T134 l1 x14_1).f0, (rd_T134 l1 x14_1).f1⟩ : S51)] : List (S51))) (inner := [.string ((rd_T134 l1 x14_1).f0), .int .i64 ((rd_T134 l1 x14_1).f1)]) (ok := fun _ => True) (okp := fun _ => True) ?hr ?hp (fun _ hk => hk) trivial (Below.refl _ _) (Nat.le_refl _) (by simp) ?_; (case hd => rfl); (case hg => rfl); (case hr => first | (go_simp; done) | (go_simp; rfl)); (case hp => exact (Reps.c2 (show Kd.M k51 _ _ _ (⟨(rd_T134 l1 x14_1).f0, (rd_T134 l1 x14_1).f1⟩ : S51) [.string ((rd_T134 l1 x14_1).f0), .int .i64 ((rd_T134 l1 x14_1).f1)] from (k51_mkM _ _ _ (⟨(rd_T134 l1 x14_1).f0, (rd_T134 l1 x14_1).f1⟩ : S51) )) (Reps.none _ _))); intro v194 w44 ho45 hb hg_ hnew_; clear hg_ hnew_; (first | rw [← Ny193.out] at ho45 | (simp only [Int.reduceToNat] at ho45; rw [← Ny193.out] at ho45)); have n0_ := Aside0.mk (Kd.R_elder' (pR HO_5) (Kd.R_base ho45) hb); have n1_ := Aside0.mk (Kd.R_lower (Kd.R_new' ho45 (Kd.R_lt (pR HO_5))) (below_size (w := w) bW)); have n2_ := Aside0.mk (kb BK181 hb); have n3_ := Aside0.mk (below_step (w := w) bW hb); clear HO_5; clear BK181; clear HB; have HO_5 := n0_; have HO195 := n1_; have BK181 := n2_; have HB := n3_; clear n0_ n1_ n2_ n3_; clear hb ho45; obtain ⟨Ao46, co46, eo46⟩ := Kd.R_slice HO195.out; subst eo46) | ((with_reducible refine gate_callee (f := 171) rfl ?_); refine goesL_ (some 42) rfl rfl Try.func171 (by kernel_rfl) rfl #[.slice Ao41 x5_1.length co41, .int .i64 t182, .slice Ao46 y193.length co46] rfl gA ?_; (with_reducible refine (impl_Entry_171.calls (fun k_ => some k_ = (.slice Ao41 x5_1.length co41 : Value).ownBlock) (.slice Ao41 x5_1.length co41) x5_1 t182 (fun k_ => some k_ = (.slice Ao46 y193.length co46 : Value).ownBlock) (.slice Ao46 y193.length co46) y193 t196 w _ ?side1 ?side2 ?side3 ?side4 ?side5 A38.out).mono ?_); (case side1 => repeat (first | (with_reducible first | exact HB.out | apply below_alloc | apply pw_below_drewN | apply below_drew1 | refine below_set ?_ GE181.out) | exact HB.out)); (case side2 => exact Kd.R_tight rfl HO_5.out); (case side3 => exact fun k_ e_ => (HO_5.out.1 k_ e_.symm).2); (case side4 => exact Kd.R_tight rfl HO195.out); (case side5 => exact fun k_ e_ => (HO195.out.1 k_ e_.symm).2); rintro e w47 ⟨v197, rfl, ho0, hb, hkp⟩; refine ⟨_, rfl, ?_⟩; have n0_ := Aside0.mk (blk_kept (kB BK181) hkp (fun hs_ => Or.elim hs_ (fun e_ => (fun e_ => (Kd.R_ne HO_5.out BK181.out (by decide)) e_) e_) (fun e_ => (fun e_ => (Kd.R_ne HO195.out BK181.out (by decide)) e_) e_))); have n1_ := Aside0.mk (Kd.R_mono (ok' := fun k_ => True) ho0 (fun k_ hk_ => trivial)); have n2_ := Aside0.mk (hb); clear BK181; clear HB; clear HO195; clear HO_5; have BK181 := n0_; have HO198 := n1_; have HB := n2_; clear n0_ n1_ n2_; (try clear hb); (try clear hkp); (try clear ho0)))
                go_roundg k1
                case measure => have := HK1.out; omega
                case rel => exact ⟨(t196), (wrap64 (x14_1 + 1)), vE, H', ⟨by have := HK1.out; omega⟩, ⟨by (with_reducible repeat (first | apply Kd.R_alloc | apply Kd.R_drewN | apply Kd.R_drew)); exact HO198.out⟩, ⟨bW⟩⟩
          · rw [if_neg c7] at H
            exact absurd H (by simp)
        · rw [if_neg c6] at H
          exact absurd H (by simp)
      · rw [if_neg c5] at H
        have c5b0 : decide (x14_1 < (l1.length : Int)) = false := decide_eq_false c5
        clear c5
        obtain rfl := Option.some.inj H
        go_wp2
        go_ret
        exact ⟨_, by first | rfl | (simp [errW_none, errW_some] <;> rfl) | (simp [*, errW_none, errW_some] <;> rfl), by (with_reducible repeat (first | apply Kd.R_alloc | apply Kd.R_drewN | apply Kd.R_drew)); exact HO_5.out, bW⟩
end Go.Proofs.Ytcpljigliklgcaa.Q
end

section
namespace Go.Proofs.Ytcpljigliklgcaa.Q
open Go.RowKit Go.Proofs.YtcpljigliklgcaaW.PrintWords Go.Proofs.YtcpljigliklgcaaW.PrintLast Go.Proofs.YtcpljigliklgcaaW.PrintMore
attribute [local go_sem] max2_int min2_int max_two min_two max_three min_three max_four min_four   -- for this text's walks alone
set_option linter.unusedVariables false
set_option linter.unusedSimpArgs false
attribute [local go_sem] bin_leq bin_gtr bin_geq
def impl_Remove.f (k : Nat) (l0 : List (S51)) (a1 : ByteArray) : Option ((List (S51)) × Int) := (impl_keyCode.f k l0 a1).bind fun t286 => (if t286 = 0 then ((impl_find.f l0 a1).bind fun bt287 => (if bt287.2 = true then ((impl_edited.f k l0 (([(⟨a1, 0, true⟩ : S134)] : List (S134)))).bind fun t292 => (some (t292, 0))) else ((impl_Entry_94.f l0).bind fun t295 => (some (t295, 5))))) else (some (([] : List (S51)), t286)))
set_option maxHeartbeats 8000000 in
set_option maxRecDepth 100000 in
theorem impl_Remove.calls (k : Nat) (A0 : Option Addr) (c0 : Nat) (l0 : List (S51)) (a1 : ByteArray) (r1 : List (S51)) (r2 : Int) (w : World) (hr0 : Kd.C k51 w A0 l0.length l0) (hc0 : l0.length ≤ c0) (h : impl_Remove.f k l0 a1 = some (r1, r2)) :
    Calls Try.prog 23 #[.slice A0 l0.length c0, .string a1] w fun e w' => ∃ v0_ : Value, e = .returned (.tuple #[v0_, .int .i64 r2]) ∧ Kd.R k51 51 w' w.heap.size (fun _ => True) v0_ r1 ∧ Below w.heap.size w w' := by
  have hu134 := Try.underlying134
  have HR0 := Aside0.mk hr0
  have HC0 := Aside0.mk hc0
  clear hr0 hc0
  have HB := Aside0.mk (Below.refl w.heap.size w)
  have H : ((impl_keyCode.f k l0 a1).bind fun t286 => (if t286 = 0 then ((impl_find.f l0 a1).bind fun bt287 => (if bt287.2 = true then ((impl_edited.f k l0 (([(⟨a1, 0, true⟩ : S134)] : List (S134)))).bind fun t292 => (some (t292, 0))) else ((impl_Entry_94.f l0).bind fun t295 => (some (t295, 5))))) else (some (([] : List (S51)), t286)))) = some (r1, r2) := h
  clear h
  replace H := Option.bind_eq_some_iff.mp H
  obtain ⟨t286, A30, H⟩ := H
  replace H : (if t286 = 0 then ((impl_find.f l0 a1).bind fun bt287 => (if bt287.2 = true then ((impl_edited.f k l0 (([(⟨a1, 0, true⟩ : S134)] : List (S134)))).bind fun t292 => (some (t292, 0))) else ((impl_Entry_94.f l0).bind fun t295 => (some (t295, 5))))) else (some (([] : List (S51)), t286))) = some (r1, r2) := H
  have A3 := Aside0.mk A30
  clear A30
  by_cases c4 : t286 = 0
  · rw [if_pos c4] at H
    have c4b0 : (t286 == 0) = true := beq_iff_eq.mpr c4
    have c4b1 : (t286 != 0) = false := bne_eq_false_iff_eq.mpr c4
    clear c4
    replace H := Option.bind_eq_some_iff.mp H
    obtain ⟨⟨t287, t288⟩, A50, H⟩ := H
    replace H : (if t288 = true then ((impl_edited.f k l0 (([(⟨a1, 0, true⟩ : S134)] : List (S134)))).bind fun t292 => (some (t292, 0))) else ((impl_Entry_94.f l0).bind fun t295 => (some (t295, 5)))) = some (r1, r2) := H
    have A5 := Aside0.mk A50
    clear A50
    by_cases c6 : t288 = true
    · subst c6
      have H1 : ((impl_edited.f k l0 (([(⟨a1, 0, true⟩ : S134)] : List (S134)))).bind fun t292 => (some (t292, 0))) = some (r1, r2) := by rw [if_pos rfl] at H; exact H
      clear H
      have H := H1
      clear H1
      obtain ⟨y289, hy289⟩ : ∃ y_ : List (S134), y_ = (([(⟨a1, 0, true⟩ : S134)] : List (S134))) := ⟨_, rfl⟩
      replace H : ((impl_edited.f k l0 y289).bind fun t292 => (some (t292, 0))) = some (r1, r2) := by first | (rw [hy289]; with_reducible exact H) | (have H2_ := (Option.bind_some _ _).symm.trans H; rw [hy289]; with_reducible exact H2_) | (have H2_ := (Option.bind_some _ _).symm.trans H; with_reducible exact H2_) | with_reducible exact H | (rw [hy289]; exact H) | exact H
      have Ny289 := Aside0.mk hy289
      clear hy289
      replace H := Option.bind_eq_some_iff.mp H
      obtain ⟨t292, A70, H⟩ := H
      replace H : (some (t292, 0)) = some (r1, r2) := H
      have A7 := Aside0.mk A70
      clear A70
      simp only [Option.some.injEq, Prod.mk.injEq] at H
      obtain ⟨rfl, rfl⟩ := H
      go_enter Try.func23, Try.ntmps23
      go_wp2_with (first | ((with_reducible refine gate_callee (f := 85) rfl ?_); refine goesL_ (some 11) rfl rfl Try.func85 (by kernel_rfl) rfl #[.slice A0 l0.length c0, .string a1] rfl gA ?_; (with_reducible refine (impl_keyCode.calls k _ _ l0 a1 t286 _ ?side1 ?side2 A3.out).mono ?_); (case side1 => exact cN HR0); (case side2 => exact HC0.out); rintro e w8 ⟨rfl, hb⟩; refine ⟨_, rfl, ?_⟩; have n0_ := Aside0.mk (below_step (w := w) bW hb); clear HB; have HB := n0_; clear n0_; (try clear hb); (try clear hb2); (try clear hk); (try clear hi)) | ((with_reducible refine gate_callee (f := 93) rfl ?_); refine goesL_ (some 18) rfl rfl Try.func93 (by kernel_rfl) rfl #[.slice A0 l0.length c0, .string a1] rfl gA ?_; (with_reducible refine (impl_find.calls _ _ l0 a1 t287 true _ ?side1 ?side2 A5.out).mono ?_); (case side1 => exact cB HR0); (case side2 => exact HC0.out); rintro e w9 ⟨rfl, hb⟩; refine ⟨_, rfl, ?_⟩; have n0_ := Aside0.mk (below_step (w := w) bW hb); clear HB; have HB := n0_; clear n0_; (try clear hb); (try clear hb2); (try clear hk); (try clear hi)) | ((with_reducible refine gate_dst (N := 28) rfl ?_); refine Kd.R_lit k134 _ 134 ?hg (N := 28) ?hd (xs := ([(⟨a1, 0, true⟩ : S134)] : List (S134))) (inner := [.string a1, .int .i64 0, .bool true]) (ok := fun _ => True) (okp := fun _ => True) ?hr ?hp (fun _ hk => hk) trivial (Below.refl _ _) (Nat.le_refl _) (by simp) ?_; (case hd => rfl); (case hg => rfl); (case hr => first | (go_simp; done) | (go_simp; rfl)); (case hp => exact (Reps.c3 (show Kd.M k134 _ _ _ (⟨a1, 0, true⟩ : S134) [.string a1, .int .i64 0, .bool true] from (k134_mkM _ _ _ (⟨a1, 0, true⟩ : S134) )) (Reps.none _ _))); intro v290 w10 ho11 hb hg_ hnew_; clear hg_ hnew_; (first | rw [← Ny289.out] at ho11 | (simp only [Int.reduceToNat] at ho11; rw [← Ny289.out] at ho11)); have n0_ := Aside0.mk (Kd.R_lower ho11 (below_size (w := w) bW)); have n1_ := Aside0.mk (below_step (w := w) bW hb); clear HB; have HO291 := n0_; have HB := n1_; clear n0_ n1_; clear hb ho11; obtain ⟨Ao12, co12, eo12⟩ := Kd.R_slice HO291.out; subst eo12) | ((with_reducible refine gate_callee (f := 88) rfl ?_); refine goesL_ (some 29) rfl rfl Try.func88 (by kernel_rfl) rfl #[.slice A0 l0.length c0, .slice Ao12 y289.length co12] rfl gA ?_; (with_reducible refine (impl_edited.calls k _ _ l0 _ _ y289 t292 _ ?side1 ?side2 ?side3 ?side4 A7.out).mono ?_); (case side1 => exact cB HR0); (case side2 => exact HC0.out); (case side3 => repeat (first | exact (Kd.R_reads' HO291.out).2.2 | (with_reducible refine Kd.C_alloc ?_ _) | (with_reducible refine Kd.C_drewN ?_ _) | (with_reducible refine Kd.C_drew ?_))); (case side4 => exact (Kd.R_reads' HO291.out).2.1); rintro e w13 ⟨v293, rfl, ho0, hb⟩; refine ⟨_, rfl, ?_⟩; have n0_ := Aside0.mk (Kd.R_below (pR HO291) hb); have n1_ := Aside0.mk (Kd.R_lower ho0 (below_size (w := w) bW)); have n2_ := Aside0.mk (below_step (w := w) bW hb); clear HO291; clear HB; have HO291 := n0_; have HO294 := n1_; have HB := n2_; clear n0_ n1_ n2_; (try clear hb); (try clear hb2); (try clear hk); (try clear hi); (try clear ho0)))
      go_ret2
      exact ⟨_, by first | rfl | (simp [errW_none, errW_some] <;> rfl) | (simp [*, errW_none, errW_some] <;> rfl), by (with_reducible repeat (first | apply Kd.R_alloc | apply Kd.R_drewN | apply Kd.R_drew)); exact HO294.out, bW⟩
    · replace c6 := Bool.eq_false_iff.mpr c6
      subst c6
      have H1 : ((impl_Entry_94.f l0).bind fun t295 => (some (t295, 5))) = some (r1, r2) := by rw [if_neg (show ¬ (false = true) by decide)] at H; exact H
      clear H
      have H := H1
      clear H1
      replace H := Option.bind_eq_some_iff.mp H
      obtain ⟨t295, A140, H⟩ := H
      replace H : (some (t295, 5)) = some (r1, r2) := H
      have A14 := Aside0.mk A140
      clear A140
      simp only [Option.some.injEq, Prod.mk.injEq] at H
      obtain ⟨rfl, rfl⟩ := H
      go_enter Try.func23, Try.ntmps23
      go_wp2_with (first | ((with_reducible refine gate_callee (f := 85) rfl ?_); refine goesL_ (some 11) rfl rfl Try.func85 (by kernel_rfl) rfl #[.slice A0 l0.length c0, .string a1] rfl gA ?_; (with_reducible refine (impl_keyCode.calls k _ _ l0 a1 t286 _ ?side1 ?side2 A3.out).mono ?_); (case side1 => exact cN HR0); (case side2 => exact HC0.out); rintro e w15 ⟨rfl, hb⟩; refine ⟨_, rfl, ?_⟩; have n0_ := Aside0.mk (below_step (w := w) bW hb); clear HB; have HB := n0_; clear n0_; (try clear hb); (try clear hb2); (try clear hk); (try clear hi)) | ((with_reducible refine gate_callee (f := 93) rfl ?_); refine goesL_ (some 18) rfl rfl Try.func93 (by kernel_rfl) rfl #[.slice A0 l0.length c0, .string a1] rfl gA ?_; (with_reducible refine (impl_find.calls _ _ l0 a1 t287 false _ ?side1 ?side2 A5.out).mono ?_); (case side1 => exact cB HR0); (case side2 => exact HC0.out); rintro e w16 ⟨rfl, hb⟩; refine ⟨_, rfl, ?_⟩; have n0_ := Aside0.mk (below_step (w := w) bW hb); clear HB; have HB := n0_; clear n0_; (try clear hb); (try clear hb2); (try clear hk); (try clear hi)) | ((with_reducible refine gate_callee (f := 94) rfl ?_); refine goesL_ (some 24) rfl rfl Try.func94 (by kernel_rfl) rfl #[.slice A0 l0.length c0] rfl gA ?_; (with_reducible refine (impl_Entry_94.calls _ _ l0 t295 _ ?side1 ?side2 A14.out).mono ?_); (case side1 => exact cB HR0); (case side2 => exact HC0.out); rintro e w17 ⟨v296, rfl, ho0, hb⟩; refine ⟨_, rfl, ?_⟩; have n0_ := Aside0.mk (Kd.R_lower ho0 (below_size (w := w) bW)); have n1_ := Aside0.mk (below_step (w := w) bW hb); clear HB; have HO297 := n0_; have HB := n1_; clear n0_ n1_; (try clear hb); (try clear hb2); (try clear hk); (try clear hi); (try clear ho0)))
      go_ret2
      exact ⟨_, by first | rfl | (simp [errW_none, errW_some] <;> rfl) | (simp [*, errW_none, errW_some] <;> rfl), by (with_reducible repeat (first | apply Kd.R_alloc | apply Kd.R_drewN | apply Kd.R_drew)); exact HO297.out, bW⟩
  · rw [if_neg c4] at H
    have c4b0 : (t286 == 0) = false := beq_eq_false_iff_ne.mpr c4
    have c4b1 : (t286 != 0) = true := bne_iff_ne.mpr c4
    simp only [Option.some.injEq, Prod.mk.injEq] at H
    obtain ⟨rfl, rfl⟩ := H
    go_enter Try.func23, Try.ntmps23
    go_wp2_with (first | ((with_reducible refine gate_callee (f := 85) rfl ?_); refine goesL_ (some 11) rfl rfl Try.func85 (by kernel_rfl) rfl #[.slice A0 l0.length c0, .string a1] rfl gA ?_; (with_reducible refine (impl_keyCode.calls k _ _ l0 a1 t286 _ ?side1 ?side2 A3.out).mono ?_); (case side1 => exact cN HR0); (case side2 => exact HC0.out); rintro e w18 ⟨rfl, hb⟩; refine ⟨_, rfl, ?_⟩; have n0_ := Aside0.mk (below_step (w := w) bW hb); clear HB; have HB := n0_; clear n0_; (try clear hb); (try clear hb2); (try clear hk); (try clear hi)))
    go_ret2
    exact ⟨_, by first | rfl | (simp [errW_none, errW_some] <;> rfl) | (simp [*, errW_none, errW_some] <;> rfl), by first | exact Kd.R_nil _ _ _ _ _ | exact Kd.N_nil _ _ _ _ _ | exact Kd.V_nil _ _ _ _ _ | exact Kd.Q_nil _ _ _ _ _ | exact Kd.S_nil _ _ _ _ _, bW⟩
end Go.Proofs.Ytcpljigliklgcaa.Q
end

section
namespace Go.Proofs.Ytcpljigliklgcaa.Q
open Go.RowKit Go.Proofs.YtcpljigliklgcaaW.PrintWords Go.Proofs.YtcpljigliklgcaaW.PrintLast Go.Proofs.YtcpljigliklgcaaW.PrintMore
attribute [local go_sem] max2_int min2_int max_two min_two max_three min_three max_four min_four   -- for this text's walks alone
set_option linter.unusedVariables false
set_option linter.unusedSimpArgs false
attribute [local go_sem] bin_leq bin_gtr bin_geq
mutual
def laws_FnExactRemove.j0 : Nat → List (S125) → ByteArray → List (S51) → Int → List (S51) → List (S51) → Int → Bool → Option (Bool)
  | 0, _, _, _, _, _, _, _, _ => none
  | k + 1, x0, x1, x6, x7, x8, x9, x10, x47 => if x47 = true then (some false) else ((laws_toEntryS.f k x0).bind fun t314 => ((laws_eqEntryS.f k x8 t314).bind fun t317 => (if t317 = true then ((laws_markEntryS.f k x8 1).bind fun bt318 => (if bt318.1 < 0 then (laws_FnExactRemove.j1 k x0 x1 x6 x7 x9 true) else ((laws_eqEntryS.f k x9 x6).bind fun t320 => (if t320 = true then (laws_FnExactRemove.j1 k x0 x1 x6 x7 x9 (x10 != x7)) else (laws_FnExactRemove.j1 k x0 x1 x6 x7 x9 true))))) else (some false))))
def laws_FnExactRemove.j1 : Nat → List (S125) → ByteArray → List (S51) → Int → List (S51) → Bool → Option (Bool)
  | 0, _, _, _, _, _, _ => none
  | k + 1, x0, x1, x6, x7, x9, x68 => if x68 = true then (some false) else ((laws_markEntryS.f k x9 1).bind fun bt321 => ((laws_heldEntryS.f k bt321.2 1).bind fun t323 => (if t323 < 0 then (some false) else (if t323 = bt321.1 then ((laws_toEntryS.f k x0).bind fun t324 => ((impl_Remove.f k t324 x1).bind fun bt327 => ((laws_eqEntryS.f k bt327.1 x6).bind fun t331 => (if t331 = true then (laws_FnExactRemove.j2 k bt321.2 bt321.1 (bt327.2 != x7)) else (laws_FnExactRemove.j2 k bt321.2 bt321.1 true))))) else (some false)))))
def laws_FnExactRemove.j2 : Nat → List (S51) → Int → Bool → Option (Bool)
  | 0, _, _, _ => none
  | k + 1, x9, x12, x95 => if x95 = true then (some false) else ((laws_heldEntryS.f k x9 1).bind fun t332 => (if t332 < 0 then (some false) else (if t332 = x12 then (some true) else (some false))))
end
def laws_FnExactRemove.f (k : Nat) (l0 : List (S125)) (a1 : ByteArray) : Option (Bool) := if (a1.size : Int) > 1048576 then (some true) else ((laws_szEntryS.f k l0 1048576).bind fun t298 => (if t298 < 0 then (some true) else ((laws_toEntryS.f k l0).bind fun t299 => ((spec_Remove.f k t299 a1).bind fun bt302 => ((laws_toEntryS.f k l0).bind fun t306 => ((impl_Remove.f k t306 a1).bind fun bt309 => ((laws_eqEntryS.f k bt309.1 bt302.1).bind fun t313 => (if t313 = true then (laws_FnExactRemove.j0 k l0 a1 bt302.1 bt302.2 t306 bt309.1 bt309.2 (bt309.2 != bt302.2)) else (laws_FnExactRemove.j0 k l0 a1 bt302.1 bt302.2 t306 bt309.1 bt309.2 true)))))))))
set_option maxHeartbeats 8000000 in
set_option maxRecDepth 100000 in
theorem laws_FnExactRemove.calls (k : Nat) (A0 : Option Addr) (c0 : Nat) (l0 : List (S125)) (a1 : ByteArray) (w : World) (hr0 : Kd.C k125 w A0 l0.length l0) (hc0 : l0.length ≤ c0) (h : laws_FnExactRemove.f k l0 a1 = some true) :
    Calls Try.prog 4 #[.slice A0 l0.length c0, .string a1] w fun e w' => e = .returned (.bool true) ∧ Below w.heap.size w w' := by
  have HR0 := Aside0.mk hr0
  have HC0 := Aside0.mk hc0
  clear hr0 hc0
  have HB := Aside0.mk (Below.refl w.heap.size w)
  have H : (if (a1.size : Int) > 1048576 then (some true) else ((laws_szEntryS.f k l0 1048576).bind fun t298 => (if t298 < 0 then (some true) else ((laws_toEntryS.f k l0).bind fun t299 => ((spec_Remove.f k t299 a1).bind fun bt302 => ((laws_toEntryS.f k l0).bind fun t306 => ((impl_Remove.f k t306 a1).bind fun bt309 => ((laws_eqEntryS.f k bt309.1 bt302.1).bind fun t313 => (if t313 = true then (laws_FnExactRemove.j0 k l0 a1 bt302.1 bt302.2 t306 bt309.1 bt309.2 (bt309.2 != bt302.2)) else (laws_FnExactRemove.j0 k l0 a1 bt302.1 bt302.2 t306 bt309.1 bt309.2 true)))))))))) = some true := h
  clear h
  by_cases c3 : (a1.size : Int) > 1048576
  · rw [if_pos c3] at H
    have c3b0 : decide (1048576 < (a1.size : Int)) = true := decide_eq_true c3
    have c3b1 : decide (1048576 < a1.size) = true := decide_eq_true (by omega)
    clear c3
    clear H
    go_enter Try.func4, Try.ntmps4
    go_wp2
    go_ret
    exact ⟨rE, bW⟩
  · rw [if_neg c3] at H
    have c3b0 : decide (1048576 < (a1.size : Int)) = false := decide_eq_false c3
    have c3b1 : decide (1048576 < a1.size) = false := decide_eq_false (by omega)
    clear c3
    replace H := Option.bind_eq_some_iff.mp H
    obtain ⟨t298, A40, H⟩ := H
    replace H : (if t298 < 0 then (some true) else ((laws_toEntryS.f k l0).bind fun t299 => ((spec_Remove.f k t299 a1).bind fun bt302 => ((laws_toEntryS.f k l0).bind fun t306 => ((impl_Remove.f k t306 a1).bind fun bt309 => ((laws_eqEntryS.f k bt309.1 bt302.1).bind fun t313 => (if t313 = true then (laws_FnExactRemove.j0 k l0 a1 bt302.1 bt302.2 t306 bt309.1 bt309.2 (bt309.2 != bt302.2)) else (laws_FnExactRemove.j0 k l0 a1 bt302.1 bt302.2 t306 bt309.1 bt309.2 true)))))))) = some true := H
    have A4 := Aside0.mk A40
    clear A40
    by_cases c5 : t298 < 0
    · rw [if_pos c5] at H
      have c5b0 : decide (t298 < 0) = true := decide_eq_true c5
      clear c5
      clear H
      go_enter Try.func4, Try.ntmps4
      go_wp2_with (first | ((with_reducible refine gate_callee (f := 15) rfl ?_); refine goesL_ (some 21) rfl rfl Try.func15 (by kernel_rfl) rfl #[.slice A0 l0.length c0, .int .i64 1048576] rfl gA ?_; (with_reducible refine (laws_szEntryS.calls k _ _ l0 1048576 t298 _ ?side1 ?side2 A4.out).mono ?_); (case side1 => exact cN HR0); (case side2 => exact HC0.out); rintro e w6 ⟨rfl, hb⟩; refine ⟨_, rfl, ?_⟩; have n0_ := Aside0.mk (below_step (w := w) bW hb); clear HB; have HB := n0_; clear n0_; (try clear hb); (try clear hb2); (try clear hk); (try clear hi)))
      go_ret
      exact ⟨rE, bW⟩
    · rw [if_neg c5] at H
      have c5b0 : decide (t298 < 0) = false := decide_eq_false c5
      clear c5
      replace H := Option.bind_eq_some_iff.mp H
      obtain ⟨t299, A70, H⟩ := H
      replace H : ((spec_Remove.f k t299 a1).bind fun bt302 => ((laws_toEntryS.f k l0).bind fun t306 => ((impl_Remove.f k t306 a1).bind fun bt309 => ((laws_eqEntryS.f k bt309.1 bt302.1).bind fun t313 => (if t313 = true then (laws_FnExactRemove.j0 k l0 a1 bt302.1 bt302.2 t306 bt309.1 bt309.2 (bt309.2 != bt302.2)) else (laws_FnExactRemove.j0 k l0 a1 bt302.1 bt302.2 t306 bt309.1 bt309.2 true)))))) = some true := H
      have A7 := Aside0.mk A70
      clear A70
      replace H := Option.bind_eq_some_iff.mp H
      obtain ⟨⟨t302, t303⟩, A80, H⟩ := H
      replace H : ((laws_toEntryS.f k l0).bind fun t306 => ((impl_Remove.f k t306 a1).bind fun bt309 => ((laws_eqEntryS.f k bt309.1 t302).bind fun t313 => (if t313 = true then (laws_FnExactRemove.j0 k l0 a1 t302 t303 t306 bt309.1 bt309.2 (bt309.2 != t303)) else (laws_FnExactRemove.j0 k l0 a1 t302 t303 t306 bt309.1 bt309.2 true))))) = some true := H
      have A8 := Aside0.mk A80
      clear A80
      replace H := Option.bind_eq_some_iff.mp H
      obtain ⟨t306, A90, H⟩ := H
      replace H : ((impl_Remove.f k t306 a1).bind fun bt309 => ((laws_eqEntryS.f k bt309.1 t302).bind fun t313 => (if t313 = true then (laws_FnExactRemove.j0 k l0 a1 t302 t303 t306 bt309.1 bt309.2 (bt309.2 != t303)) else (laws_FnExactRemove.j0 k l0 a1 t302 t303 t306 bt309.1 bt309.2 true)))) = some true := H
      have A9 := Aside0.mk A90
      clear A90
      replace H := Option.bind_eq_some_iff.mp H
      obtain ⟨⟨t309, t310⟩, A100, H⟩ := H
      replace H : ((laws_eqEntryS.f k t309 t302).bind fun t313 => (if t313 = true then (laws_FnExactRemove.j0 k l0 a1 t302 t303 t306 t309 t310 (t310 != t303)) else (laws_FnExactRemove.j0 k l0 a1 t302 t303 t306 t309 t310 true))) = some true := H
      have A10 := Aside0.mk A100
      clear A100
      have HC11 := Aside0.mk H
      clear H
      go_enter Try.func4, Try.ntmps4
      go_upto_region 10 with (first | ((with_reducible refine gate_callee (f := 15) rfl ?_); refine goesL_ (some 21) rfl rfl Try.func15 (by kernel_rfl) rfl #[.slice A0 l0.length c0, .int .i64 1048576] rfl gA ?_; (with_reducible refine (laws_szEntryS.calls k _ _ l0 1048576 t298 _ ?side1 ?side2 A4.out).mono ?_); (case side1 => exact cN HR0); (case side2 => exact HC0.out); rintro e w12 ⟨rfl, hb⟩; refine ⟨_, rfl, ?_⟩; have n0_ := Aside0.mk (below_step (w := w) bW hb); clear HB; have HB := n0_; clear n0_; (try clear hb); (try clear hb2); (try clear hk); (try clear hi)) | ((with_reducible refine gate_callee (f := 17) rfl ?_); refine goesL_ (some 26) rfl rfl Try.func17 (by kernel_rfl) rfl #[.slice A0 l0.length c0] rfl gA ?_; (with_reducible refine (laws_toEntryS.calls k _ _ l0 t299 _ ?side1 ?side2 A7.out).mono ?_); (case side1 => exact cB HR0); (case side2 => exact HC0.out); rintro e w13 ⟨v300, rfl, ho0, hb⟩; refine ⟨_, rfl, ?_⟩; have n0_ := Aside0.mk (Kd.R_lower ho0 (below_size (w := w) bW)); have n1_ := Aside0.mk (below_step (w := w) bW hb); clear HB; have HO301 := n0_; have HB := n1_; clear n0_ n1_; (try clear hb); (try clear hb2); (try clear hk); (try clear hi); (try clear ho0); obtain ⟨Ao14, co14, eo14⟩ := Kd.R_slice HO301.out; subst eo14) | ((with_reducible refine gate_callee (f := 22) rfl ?_); refine goesL_ (some 28) rfl rfl Try.func22 (by kernel_rfl) rfl #[.slice Ao14 t299.length co14, .string a1] rfl gA ?_; (with_reducible refine (spec_Remove.calls k _ _ t299 a1 t302 t303 _ ?side1 ?side2 A8.out).mono ?_); (case side1 => repeat (first | exact (Kd.R_reads' HO301.out).2.2 | (with_reducible refine Kd.C_alloc ?_ _) | (with_reducible refine Kd.C_drewN ?_ _) | (with_reducible refine Kd.C_drew ?_))); (case side2 => exact (Kd.R_reads' HO301.out).2.1); rintro e w15 ⟨v304, rfl, ho0, hb⟩; refine ⟨_, rfl, ?_⟩; have n0_ := Aside0.mk (Kd.R_elder' (pR HO301) (Kd.R_base ho0) hb); have n1_ := Aside0.mk (Kd.R_lower (Kd.R_new' ho0 (Kd.R_lt (pR HO301))) (below_size (w := w) bW)); have n2_ := Aside0.mk (below_step (w := w) bW hb); clear HO301; clear HB; have HO301 := n0_; have HO305 := n1_; have HB := n2_; clear n0_ n1_ n2_; (try clear hb); (try clear hb2); (try clear hk); (try clear hi); (try clear ho0)) | ((with_reducible refine gate_callee (f := 17) rfl ?_); refine goesL_ (some 32) rfl rfl Try.func17 (by kernel_rfl) rfl #[.slice A0 l0.length c0] rfl gA ?_; (with_reducible refine (laws_toEntryS.calls k _ _ l0 t306 _ ?side1 ?side2 A9.out).mono ?_); (case side1 => exact cB HR0); (case side2 => exact HC0.out); rintro e w16 ⟨v307, rfl, ho0, hb⟩; refine ⟨_, rfl, ?_⟩; have n0_ := Aside0.mk (Kd.R_elder' (pR HO301) (Kd.R_base ho0) hb); have n1_ := Aside0.mk (Kd.R_elder' (pR HO305) (Kd.R_base ho0) hb); have n2_ := Aside0.mk (Kd.R_lower (Kd.R_new' (Kd.R_new' ho0 (Kd.R_lt (pR HO301))) (Kd.R_lt (pR HO305))) (below_size (w := w) bW)); have n3_ := Aside0.mk (below_step (w := w) bW hb); clear HO301; clear HO305; clear HB; have HO301 := n0_; have HO305 := n1_; have HO308 := n2_; have HB := n3_; clear n0_ n1_ n2_ n3_; (try clear hb); (try clear hb2); (try clear hk); (try clear hi); (try clear ho0); obtain ⟨Ao17, co17, eo17⟩ := Kd.R_slice HO308.out; subst eo17) | ((with_reducible refine gate_callee (f := 23) rfl ?_); refine goesL_ (some 36) rfl rfl Try.func23 (by kernel_rfl) rfl #[.slice Ao17 t306.length co17, .string a1] rfl gA ?_; (with_reducible refine (impl_Remove.calls k _ _ t306 a1 t309 t310 _ ?side1 ?side2 A10.out).mono ?_); (case side1 => repeat (first | exact (Kd.R_reads' HO308.out).2.2 | (with_reducible refine Kd.C_alloc ?_ _) | (with_reducible refine Kd.C_drewN ?_ _) | (with_reducible refine Kd.C_drew ?_))); (case side2 => exact (Kd.R_reads' HO308.out).2.1); rintro e w18 ⟨v311, rfl, ho0, hb⟩; refine ⟨_, rfl, ?_⟩; have n0_ := Aside0.mk (Kd.R_elder' (pR HO301) (Kd.R_base ho0) hb); have n1_ := Aside0.mk (Kd.R_elder' (pR HO305) (Kd.R_base ho0) hb); have n2_ := Aside0.mk (Kd.R_elder' (pR HO308) (Kd.R_base ho0) hb); have n3_ := Aside0.mk (Kd.R_lower (Kd.R_new' (Kd.R_new' (Kd.R_new' ho0 (Kd.R_lt (pR HO301))) (Kd.R_lt (pR HO305))) (Kd.R_lt (pR HO308))) (below_size (w := w) bW)); have n4_ := Aside0.mk (below_step (w := w) bW hb); clear HO301; clear HO305; clear HO308; clear HB; have HO301 := n0_; have HO305 := n1_; have HO308 := n2_; have HO312 := n3_; have HB := n4_; clear n0_ n1_ n2_ n3_ n4_; (try clear hb); (try clear hb2); (try clear hk); (try clear hi); (try clear ho0)))
      (try simp only [Act.put, List.setIfInBounds_toArray, List.set_cons_zero, List.set_cons_succ])
      go_cut [47] (fun v47 wc => ∃ (kq : Nat) (x47_10 : Bool), v47 = .bool x47_10 ∧ Aside0 (laws_FnExactRemove.j0 kq l0 a1 t302 t303 t306 t309 t310 x47_10 = some true) ∧ Aside0 (kq ≤ k) ∧ Aside0 (Kd.R k51 51 wc w.heap.size (fun k_ => some k_ ≠ ((.slice Ao17 t306.length co17) : Value).ownBlock ∧ some k_ ≠ (v311 : Value).ownBlock) v304 t302) ∧ Aside0 (Kd.R k51 51 wc w.heap.size (fun k_ => some k_ ≠ (v304 : Value).ownBlock ∧ some k_ ≠ (v311 : Value).ownBlock) (.slice Ao17 t306.length co17) t306) ∧ Aside0 (Kd.R k51 51 wc w.heap.size (fun k_ => some k_ ≠ (v304 : Value).ownBlock ∧ some k_ ≠ ((.slice Ao17 t306.length co17) : Value).ownBlock) v311 t309) ∧ Aside0 (Below w.heap.size w wc))
      case first =>
        have H := HC11.out
        clear HC11
        replace H := Option.bind_eq_some_iff.mp H
        obtain ⟨t313, A190, H⟩ := H
        replace H : (if t313 = true then (laws_FnExactRemove.j0 k l0 a1 t302 t303 t306 t309 t310 (t310 != t303)) else (laws_FnExactRemove.j0 k l0 a1 t302 t303 t306 t309 t310 true)) = some true := H
        have A19 := Aside0.mk A190
        clear A190
        by_cases c20 : t313 = true
        · subst c20
          have H1 : (laws_FnExactRemove.j0 k l0 a1 t302 t303 t306 t309 t310 (t310 != t303)) = some true := by rw [if_pos rfl] at H; exact H
          clear H
          have H := H1
          clear H1
          have H' := Aside0.mk H
          clear H
          obtain ⟨Ao21, co21, eo21⟩ := Kd.R_slice HO312.out
          subst eo21
          obtain ⟨Ao22, co22, eo22⟩ := Kd.R_slice HO305.out
          subst eo22
          go_wp2_with (first | ((with_reducible refine gate_callee (f := 19) rfl ?_); refine goesL_ (some 41) rfl rfl Try.func19 (by kernel_rfl) rfl #[.slice Ao21 t309.length co21, .slice Ao22 t302.length co22] rfl gA ?_; (with_reducible refine (laws_eqEntryS.calls k _ _ t309 _ _ t302 true _ ?side1 ?side2 ?side3 ?side4 A19.out).mono ?_); (case side1 => repeat (first | exact (Kd.R_reads' HO312.out).2.2 | (with_reducible refine Kd.C_alloc ?_ _) | (with_reducible refine Kd.C_drewN ?_ _) | (with_reducible refine Kd.C_drew ?_))); (case side2 => exact (Kd.R_reads' HO312.out).2.1); (case side3 => repeat (first | exact (Kd.R_reads' HO305.out).2.2 | (with_reducible refine Kd.C_alloc ?_ _) | (with_reducible refine Kd.C_drewN ?_ _) | (with_reducible refine Kd.C_drew ?_))); (case side4 => exact (Kd.R_reads' HO305.out).2.1); rintro e w23 ⟨rfl, hb⟩; refine ⟨_, rfl, ?_⟩; have n0_ := Aside0.mk (Kd.R_below (pR HO301) hb); have n1_ := Aside0.mk (Kd.R_below (pR HO305) hb); have n2_ := Aside0.mk (Kd.R_below (pR HO308) hb); have n3_ := Aside0.mk (Kd.R_below (pR HO312) hb); have n4_ := Aside0.mk (below_step (w := w) bW hb); clear HO301; clear HO305; clear HO308; clear HO312; clear HB; have HO301 := n0_; have HO305 := n1_; have HO308 := n2_; have HO312 := n3_; have HB := n4_; clear n0_ n1_ n2_ n3_ n4_; (try clear hb); (try clear hb2); (try clear hk); (try clear hi)))
          go_meet
          case rel => exact ⟨_, ((t310 != t303)), vE, H', ⟨by first | omega | exact Nat.le_refl _⟩, ⟨by (with_reducible repeat (first | apply Kd.R_alloc | apply Kd.R_drewN | apply Kd.R_drew)); exact Kd.R_mono HO305.out (fun _ hk => ⟨hk.1.2, hk.2⟩)⟩, ⟨by (with_reducible repeat (first | apply Kd.R_alloc | apply Kd.R_drewN | apply Kd.R_drew)); exact Kd.R_mono HO308.out (fun _ hk => ⟨hk.1.2, hk.2⟩)⟩, ⟨by (with_reducible repeat (first | apply Kd.R_alloc | apply Kd.R_drewN | apply Kd.R_drew)); exact Kd.R_mono HO312.out (fun _ hk => ⟨hk.1.2, hk.2⟩)⟩, ⟨bW⟩⟩
        · replace c20 := Bool.eq_false_iff.mpr c20
          subst c20
          have H1 : (laws_FnExactRemove.j0 k l0 a1 t302 t303 t306 t309 t310 true) = some true := by rw [if_neg (show ¬ (false = true) by decide)] at H; exact H
          clear H
          have H := H1
          clear H1
          have H' := Aside0.mk H
          clear H
          obtain ⟨Ao24, co24, eo24⟩ := Kd.R_slice HO312.out
          subst eo24
          obtain ⟨Ao25, co25, eo25⟩ := Kd.R_slice HO305.out
          subst eo25
          go_wp2_with (first | ((with_reducible refine gate_callee (f := 19) rfl ?_); refine goesL_ (some 41) rfl rfl Try.func19 (by kernel_rfl) rfl #[.slice Ao24 t309.length co24, .slice Ao25 t302.length co25] rfl gA ?_; (with_reducible refine (laws_eqEntryS.calls k _ _ t309 _ _ t302 false _ ?side1 ?side2 ?side3 ?side4 A19.out).mono ?_); (case side1 => repeat (first | exact (Kd.R_reads' HO312.out).2.2 | (with_reducible refine Kd.C_alloc ?_ _) | (with_reducible refine Kd.C_drewN ?_ _) | (with_reducible refine Kd.C_drew ?_))); (case side2 => exact (Kd.R_reads' HO312.out).2.1); (case side3 => repeat (first | exact (Kd.R_reads' HO305.out).2.2 | (with_reducible refine Kd.C_alloc ?_ _) | (with_reducible refine Kd.C_drewN ?_ _) | (with_reducible refine Kd.C_drew ?_))); (case side4 => exact (Kd.R_reads' HO305.out).2.1); rintro e w26 ⟨rfl, hb⟩; refine ⟨_, rfl, ?_⟩; have n0_ := Aside0.mk (Kd.R_below (pR HO301) hb); have n1_ := Aside0.mk (Kd.R_below (pR HO305) hb); have n2_ := Aside0.mk (Kd.R_below (pR HO308) hb); have n3_ := Aside0.mk (Kd.R_below (pR HO312) hb); have n4_ := Aside0.mk (below_step (w := w) bW hb); clear HO301; clear HO305; clear HO308; clear HO312; clear HB; have HO301 := n0_; have HO305 := n1_; have HO308 := n2_; have HO312 := n3_; have HB := n4_; clear n0_ n1_ n2_ n3_ n4_; (try clear hb); (try clear hb2); (try clear hk); (try clear hi)))
          go_meet
          case rel => exact ⟨_, (true), vE, H', ⟨by first | omega | exact Nat.le_refl _⟩, ⟨by (with_reducible repeat (first | apply Kd.R_alloc | apply Kd.R_drewN | apply Kd.R_drew)); exact Kd.R_mono HO305.out (fun _ hk => ⟨hk.1.2, hk.2⟩)⟩, ⟨by (with_reducible repeat (first | apply Kd.R_alloc | apply Kd.R_drewN | apply Kd.R_drew)); exact Kd.R_mono HO308.out (fun _ hk => ⟨hk.1.2, hk.2⟩)⟩, ⟨by (with_reducible repeat (first | apply Kd.R_alloc | apply Kd.R_drewN | apply Kd.R_drew)); exact Kd.R_mono HO312.out (fun _ hk => ⟨hk.1.2, hk.2⟩)⟩, ⟨bW⟩⟩
      case rest =>
        clear HC11
        try clear c1
        try clear c2
        try clear p2
        try clear c3
        try clear c3b0
        try clear c3b1
        try clear c4
        try clear c5
        try clear c5b0
        try clear c15
        try clear c17
        try clear c19
        try clear c20
        try clear c22
        try clear c23
        obtain ⟨kq, x47_10, rfl, HA, HJ10, HO_6, HO_8, HO_9, HB⟩ := hcut
        cases kq with
        | zero => exact absurd HA.out (by simp [laws_FnExactRemove.j0])
        | succ kj10 =>
          have H := HA.out
          clear HA
          simp only [laws_FnExactRemove.j0] at H
          by_cases c27 : x47_10 = true
          · subst c27
            have H1 : (some false) = some true := by rw [if_pos rfl] at H; exact H
            exact absurd H1 (by simp)
          · replace c27 := Bool.eq_false_iff.mpr c27
            subst c27
            have H1 : ((laws_toEntryS.f kj10 l0).bind fun t314 => ((laws_eqEntryS.f kj10 t306 t314).bind fun t317 => (if t317 = true then ((laws_markEntryS.f kj10 t306 1).bind fun bt318 => (if bt318.1 < 0 then (laws_FnExactRemove.j1 kj10 l0 a1 t302 t303 t309 true) else ((laws_eqEntryS.f kj10 t309 t302).bind fun t320 => (if t320 = true then (laws_FnExactRemove.j1 kj10 l0 a1 t302 t303 t309 (t310 != t303)) else (laws_FnExactRemove.j1 kj10 l0 a1 t302 t303 t309 true))))) else (some false)))) = some true := by rw [if_neg (show ¬ (false = true) by decide)] at H; exact H
            clear H
            have H := H1
            clear H1
            replace H := Option.bind_eq_some_iff.mp H
            obtain ⟨t314, A280, H⟩ := H
            replace H : ((laws_eqEntryS.f kj10 t306 t314).bind fun t317 => (if t317 = true then ((laws_markEntryS.f kj10 t306 1).bind fun bt318 => (if bt318.1 < 0 then (laws_FnExactRemove.j1 kj10 l0 a1 t302 t303 t309 true) else ((laws_eqEntryS.f kj10 t309 t302).bind fun t320 => (if t320 = true then (laws_FnExactRemove.j1 kj10 l0 a1 t302 t303 t309 (t310 != t303)) else (laws_FnExactRemove.j1 kj10 l0 a1 t302 t303 t309 true))))) else (some false))) = some true := H
            have A28 := Aside0.mk A280
            clear A280
            replace H := Option.bind_eq_some_iff.mp H
            obtain ⟨t317, A290, H⟩ := H
            replace H : (if t317 = true then ((laws_markEntryS.f kj10 t306 1).bind fun bt318 => (if bt318.1 < 0 then (laws_FnExactRemove.j1 kj10 l0 a1 t302 t303 t309 true) else ((laws_eqEntryS.f kj10 t309 t302).bind fun t320 => (if t320 = true then (laws_FnExactRemove.j1 kj10 l0 a1 t302 t303 t309 (t310 != t303)) else (laws_FnExactRemove.j1 kj10 l0 a1 t302 t303 t309 true))))) else (some false)) = some true := H
            have A29 := Aside0.mk A290
            clear A290
            by_cases c30 : t317 = true
            · subst c30
              have H1 : ((laws_markEntryS.f kj10 t306 1).bind fun bt318 => (if bt318.1 < 0 then (laws_FnExactRemove.j1 kj10 l0 a1 t302 t303 t309 true) else ((laws_eqEntryS.f kj10 t309 t302).bind fun t320 => (if t320 = true then (laws_FnExactRemove.j1 kj10 l0 a1 t302 t303 t309 (t310 != t303)) else (laws_FnExactRemove.j1 kj10 l0 a1 t302 t303 t309 true))))) = some true := by rw [if_pos rfl] at H; exact H
              clear H
              have H := H1
              clear H1
              replace H := Option.bind_eq_some_iff.mp H
              obtain ⟨⟨t318, t319⟩, A310, H⟩ := H
              replace H : (if t318 < 0 then (laws_FnExactRemove.j1 kj10 l0 a1 t302 t303 t309 true) else ((laws_eqEntryS.f kj10 t309 t302).bind fun t320 => (if t320 = true then (laws_FnExactRemove.j1 kj10 l0 a1 t302 t303 t309 (t310 != t303)) else (laws_FnExactRemove.j1 kj10 l0 a1 t302 t303 t309 true)))) = some true := H
              have A31 := Aside0.mk A310
              clear A310
              have HC32 := Aside0.mk H
              clear H
              go_upto_region 16 with (first | ((with_reducible refine gate_callee (f := 17) rfl ?_); refine goesL_ (some 50) rfl rfl Try.func17 (by kernel_rfl) rfl #[.slice A0 l0.length c0] rfl gA ?_; (with_reducible refine (laws_toEntryS.calls kj10 _ _ l0 t314 _ ?side1 ?side2 A28.out).mono ?_); (case side1 => exact cB HR0); (case side2 => exact HC0.out); rintro e w33 ⟨v315, rfl, ho0, hb⟩; refine ⟨_, rfl, ?_⟩; have n0_ := Aside0.mk (Kd.R_elder' (pR HO_6) (Kd.R_base ho0) hb); have n1_ := Aside0.mk (Kd.R_elder' (pR HO_8) (Kd.R_base ho0) hb); have n2_ := Aside0.mk (Kd.R_elder' (pR HO_9) (Kd.R_base ho0) hb); have n3_ := Aside0.mk (Kd.R_lower (Kd.R_new' (Kd.R_new' (Kd.R_new' ho0 (Kd.R_lt (pR HO_6))) (Kd.R_lt (pR HO_8))) (Kd.R_lt (pR HO_9))) (below_size (w := w) bW)); have n4_ := Aside0.mk (below_step (w := w) bW hb); clear HO_6; clear HO_8; clear HO_9; clear HB; have HO_6 := n0_; have HO_8 := n1_; have HO_9 := n2_; have HO316 := n3_; have HB := n4_; clear n0_ n1_ n2_ n3_ n4_; (try clear hb); (try clear hb2); (try clear hk); (try clear hi); (try clear ho0); obtain ⟨Ao34, co34, eo34⟩ := Kd.R_slice HO316.out; subst eo34) | ((with_reducible refine gate_callee (f := 19) rfl ?_); refine goesL_ (some 51) rfl rfl Try.func19 (by kernel_rfl) rfl #[.slice Ao17 t306.length co17, .slice Ao34 t314.length co34] rfl gA ?_; (with_reducible refine (laws_eqEntryS.calls kj10 _ _ t306 _ _ t314 true _ ?side1 ?side2 ?side3 ?side4 A29.out).mono ?_); (case side1 => repeat (first | exact (Kd.R_reads' HO_8.out).2.2 | (with_reducible refine Kd.C_alloc ?_ _) | (with_reducible refine Kd.C_drewN ?_ _) | (with_reducible refine Kd.C_drew ?_))); (case side2 => exact (Kd.R_reads' HO_8.out).2.1); (case side3 => repeat (first | exact (Kd.R_reads' HO316.out).2.2 | (with_reducible refine Kd.C_alloc ?_ _) | (with_reducible refine Kd.C_drewN ?_ _) | (with_reducible refine Kd.C_drew ?_))); (case side4 => exact (Kd.R_reads' HO316.out).2.1); rintro e w35 ⟨rfl, hb⟩; refine ⟨_, rfl, ?_⟩; have n0_ := Aside0.mk (Kd.R_below (pR HO_6) hb); have n1_ := Aside0.mk (Kd.R_below (pR HO_8) hb); have n2_ := Aside0.mk (Kd.R_below (pR HO_9) hb); have n3_ := Aside0.mk (Kd.R_below (pR HO316) hb); have n4_ := Aside0.mk (below_step (w := w) bW hb); clear HO_6; clear HO_8; clear HO_9; clear HO316; clear HB; have HO_6 := n0_; have HO_8 := n1_; have HO_9 := n2_; have HO316 := n3_; have HB := n4_; clear n0_ n1_ n2_ n3_ n4_; (try clear hb); (try clear hb2); (try clear hk); (try clear hi)) | ((with_reducible refine gate_callee (f := 20) rfl ?_); refine goesL_ (some 55) rfl rfl Try.func20 (by kernel_rfl) rfl #[.slice Ao17 t306.length co17, .int .i64 1] rfl gA ?_; (with_reducible refine (laws_markEntryS.calls kj10 (fun k_ => some k_ = (.slice Ao17 t306.length co17 : Value).ownBlock) (.slice Ao17 t306.length co17) t306 1 t318 t319 w _ ?side1 ?side2 A31.out).mono ?_); (case side1 => repeat (first | (with_reducible first | exact HB.out | apply below_alloc | apply pw_below_drewN | apply below_drew1) | exact HB.out)); (case side2 => exact Kd.R_tight rfl HO_8.out); rintro e w36 ⟨rfl, hy0, hb, hkp⟩; refine ⟨_, rfl, ?_⟩; have n0_ := Aside0.mk (Kd.R_mono (ok' := fun k_ => some k_ ≠ (.slice Ao17 t306.length co17 : Value).ownBlock ∧ some k_ ≠ (v311 : Value).ownBlock ∧ some k_ ≠ (.slice Ao34 t314.length co34 : Value).ownBlock) (Kd.R_keptB (HO_6.out) hkp (fun k_ hk_ hs_ => (hk_.1.1) hs_)) (fun k_ hk_ => ⟨hk_.1.1.1, hk_.1.1.2, hk_.1.2⟩)); have n1_ := Aside0.mk (Kd.R_reok rfl hy0 (fun k_ e_ => HO_8.out.1 k_ e_)); have n2_ := Aside0.mk (Kd.R_mono (ok' := fun k_ => some k_ ≠ (v304 : Value).ownBlock ∧ some k_ ≠ (.slice Ao17 t306.length co17 : Value).ownBlock ∧ some k_ ≠ (.slice Ao34 t314.length co34 : Value).ownBlock) (Kd.R_keptB (HO_9.out) hkp (fun k_ hk_ hs_ => (hk_.1.2) hs_)) (fun k_ hk_ => ⟨hk_.1.1.1, hk_.1.1.2, hk_.1.2⟩)); have n3_ := Aside0.mk (Kd.R_mono (ok' := fun k_ => some k_ ≠ (v304 : Value).ownBlock ∧ some k_ ≠ (.slice Ao17 t306.length co17 : Value).ownBlock ∧ some k_ ≠ (v311 : Value).ownBlock) (Kd.R_keptB (HO316.out) hkp (fun k_ hk_ hs_ => (hk_.1.2) hs_)) (fun k_ hk_ => ⟨hk_.1.1.1.2, hk_.1.1.2, hk_.1.2⟩)); have n4_ := Aside0.mk (hb); clear HO_6; clear HO_8; clear HO_9; clear HO316; clear HB; have HO_6 := n0_; have HO_8 := n1_; have HO_9 := n2_; have HO316 := n3_; have HB := n4_; clear n0_ n1_ n2_ n3_ n4_; (try clear hb); (try clear hkp); (try clear hy0)))
              (try simp only [Act.put, List.setIfInBounds_toArray, List.set_cons_zero, List.set_cons_succ])
              go_cut [68] (fun v68 wc => ∃ (kq : Nat) (x68_31 : Bool), v68 = .bool x68_31 ∧ Aside0 (laws_FnExactRemove.j1 kq l0 a1 t302 t303 t309 x68_31 = some true) ∧ Aside0 (kq ≤ kj10) ∧ Aside0 (Kd.R k51 51 wc w.heap.size (fun k_ => some k_ ≠ (v311 : Value).ownBlock) v304 t302) ∧ Aside0 (Kd.R k51 51 wc w.heap.size (fun k_ => some k_ ≠ (v304 : Value).ownBlock) v311 t309) ∧ Aside0 (Below w.heap.size w wc))
              case first =>
                have H := HC32.out
                clear HC32
                by_cases c37 : t318 < 0
                · rw [if_pos c37] at H
                  have c37b0 : decide (t318 < 0) = true := decide_eq_true c37
                  clear c37
                  (first | rw [c37b0] | (simp only [i64_w, i32_w]; rw [c37b0]) | skip)
                  have H' := Aside0.mk H
                  clear H
                  go_wp2
                  go_meet
                  case rel => exact ⟨_, (true), vE, H', ⟨by have := HJ10.out; first | omega | exact Nat.le_refl _⟩, ⟨by (with_reducible repeat (first | apply Kd.R_alloc | apply Kd.R_drewN | apply Kd.R_drew)); exact Kd.R_mono HO_6.out (fun _ hk => hk.2.1)⟩, ⟨by (with_reducible repeat (first | apply Kd.R_alloc | apply Kd.R_drewN | apply Kd.R_drew)); exact Kd.R_mono HO_9.out (fun _ hk => hk.1)⟩, ⟨bW⟩⟩
                · rw [if_neg c37] at H
                  have c37b0 : decide (t318 < 0) = false := decide_eq_false c37
                  clear c37
                  (first | rw [c37b0] | (simp only [i64_w, i32_w]; rw [c37b0]) | skip)
                  replace H := Option.bind_eq_some_iff.mp H
                  obtain ⟨t320, A380, H⟩ := H
                  replace H : (if t320 = true then (laws_FnExactRemove.j1 kj10 l0 a1 t302 t303 t309 (t310 != t303)) else (laws_FnExactRemove.j1 kj10 l0 a1 t302 t303 t309 true)) = some true := H
                  have A38 := Aside0.mk A380
                  clear A380
                  by_cases c39 : t320 = true
                  · subst c39
                    have H1 : (laws_FnExactRemove.j1 kj10 l0 a1 t302 t303 t309 (t310 != t303)) = some true := by rw [if_pos rfl] at H; exact H
                    clear H
                    have H := H1
                    clear H1
                    have H' := Aside0.mk H
                    clear H
                    obtain ⟨Ao40, co40, eo40⟩ := Kd.R_slice HO_9.out
                    subst eo40
                    obtain ⟨Ao41, co41, eo41⟩ := Kd.R_slice HO_6.out
                    subst eo41
                    go_wp2_with (first | (go_at_call 19; (with_reducible refine (laws_eqEntryS.calls kj10 _ _ t309 _ _ t302 true _ ?side1 ?side2 ?side3 ?side4 A38.out).mono ?_); (case side1 => repeat (first | exact (Kd.R_reads' HO_9.out).2.2 | (with_reducible refine Kd.C_alloc ?_ _) | (with_reducible refine Kd.C_drewN ?_ _) | (with_reducible refine Kd.C_drew ?_))); (case side2 => exact (Kd.R_reads' HO_9.out).2.1); (case side3 => repeat (first | exact (Kd.R_reads' HO_6.out).2.2 | (with_reducible refine Kd.C_alloc ?_ _) | (with_reducible refine Kd.C_drewN ?_ _) | (with_reducible refine Kd.C_drew ?_))); (case side4 => exact (Kd.R_reads' HO_6.out).2.1); rintro e w42 ⟨rfl, hb⟩; have n0_ := Aside0.mk (Kd.R_below (pR HO_6) hb); have n1_ := Aside0.mk (Kd.R_below (pR HO_8) hb); have n2_ := Aside0.mk (Kd.R_below (pR HO_9) hb); have n3_ := Aside0.mk (Kd.R_below (pR HO316) hb); have n4_ := Aside0.mk (below_step (w := w) bW hb); clear HO_6; clear HO_8; clear HO_9; clear HO316; clear HB; have HO_6 := n0_; have HO_8 := n1_; have HO_9 := n2_; have HO316 := n3_; have HB := n4_; clear n0_ n1_ n2_ n3_ n4_; (try clear hb); (try clear hb2); (try clear hk); (try clear hi)))
                    go_meet
                    case rel => exact ⟨_, ((t310 != t303)), vE, H', ⟨by have := HJ10.out; first | omega | exact Nat.le_refl _⟩, ⟨by (with_reducible repeat (first | apply Kd.R_alloc | apply Kd.R_drewN | apply Kd.R_drew)); exact Kd.R_mono HO_6.out (fun _ hk => hk.2.1)⟩, ⟨by (with_reducible repeat (first | apply Kd.R_alloc | apply Kd.R_drewN | apply Kd.R_drew)); exact Kd.R_mono HO_9.out (fun _ hk => hk.1)⟩, ⟨bW⟩⟩
                  · replace c39 := Bool.eq_false_iff.mpr c39
                    subst c39
                    have H1 : (laws_FnExactRemove.j1 kj10 l0 a1 t302 t303 t309 true) = some true := by rw [if_neg (show ¬ (false = true) by decide)] at H; exact H
                    clear H
                    have H := H1
                    clear H1
                    have H' := Aside0.mk H
                    clear H
                    obtain ⟨Ao43, co43, eo43⟩ := Kd.R_slice HO_9.out
                    subst eo43
                    obtain ⟨Ao44, co44, eo44⟩ := Kd.R_slice HO_6.out
                    subst eo44
                    go_wp2_with (first | (go_at_call 19; (with_reducible refine (laws_eqEntryS.calls kj10 _ _ t309 _ _ t302 false _ ?side1 ?side2 ?side3 ?side4 A38.out).mono ?_); (case side1 => repeat (first | exact (Kd.R_reads' HO_9.out).2.2 | (with_reducible refine Kd.C_alloc ?_ _) | (with_reducible refine Kd.C_drewN ?_ _) | (with_reducible refine Kd.C_drew ?_))); (case side2 => exact (Kd.R_reads' HO_9.out).2.1); (case side3 => repeat (first | exact (Kd.R_reads' HO_6.out).2.2 | (with_reducible refine Kd.C_alloc ?_ _) | (with_reducible refine Kd.C_drewN ?_ _) | (with_reducible refine Kd.C_drew ?_))); (case side4 => exact (Kd.R_reads' HO_6.out).2.1); rintro e w45 ⟨rfl, hb⟩; have n0_ := Aside0.mk (Kd.R_below (pR HO_6) hb); have n1_ := Aside0.mk (Kd.R_below (pR HO_8) hb); have n2_ := Aside0.mk (Kd.R_below (pR HO_9) hb); have n3_ := Aside0.mk (Kd.R_below (pR HO316) hb); have n4_ := Aside0.mk (below_step (w := w) bW hb); clear HO_6; clear HO_8; clear HO_9; clear HO316; clear HB; have HO_6 := n0_; have HO_8 := n1_; have HO_9 := n2_; have HO316 := n3_; have HB := n4_; clear n0_ n1_ n2_ n3_ n4_; (try clear hb); (try clear hb2); (try clear hk); (try clear hi)))
                    go_meet
                    case rel => exact ⟨_, (true), vE, H', ⟨by have := HJ10.out; first | omega | exact Nat.le_refl _⟩, ⟨by (with_reducible repeat (first | apply Kd.R_alloc | apply Kd.R_drewN | apply Kd.R_drew)); exact Kd.R_mono HO_6.out (fun _ hk => hk.2.1)⟩, ⟨by (with_reducible repeat (first | apply Kd.R_alloc | apply Kd.R_drewN | apply Kd.R_drew)); exact Kd.R_mono HO_9.out (fun _ hk => hk.1)⟩, ⟨bW⟩⟩
              case rest =>
                clear HC32
                try clear c1
                try clear c2
                try clear p2
                try clear c3
                try clear c3b0
                try clear c3b1
                try clear c4
                try clear c5
                try clear c5b0
                try clear c15
                try clear c17
                try clear c19
                try clear c20
                try clear c22
                try clear c23
                try clear c27
                try clear c30
                try clear c37
                try clear c37b0
                try clear c39
                try clear p2
                obtain ⟨kq, x68_31, rfl, HA, HJ31, HO_6, HO_9, HB⟩ := hcut
                cases kq with
                | zero => exact absurd HA.out (by simp [laws_FnExactRemove.j1])
                | succ kj31 =>
                  have H := HA.out
                  clear HA
                  simp only [laws_FnExactRemove.j1] at H
                  by_cases c46 : x68_31 = true
                  · subst c46
                    have H1 : (some false) = some true := by rw [if_pos rfl] at H; exact H
                    exact absurd H1 (by simp)
                  · replace c46 := Bool.eq_false_iff.mpr c46
                    subst c46
                    have H1 : ((laws_markEntryS.f kj31 t309 1).bind fun bt321 => ((laws_heldEntryS.f kj31 bt321.2 1).bind fun t323 => (if t323 < 0 then (some false) else (if t323 = bt321.1 then ((laws_toEntryS.f kj31 l0).bind fun t324 => ((impl_Remove.f kj31 t324 a1).bind fun bt327 => ((laws_eqEntryS.f kj31 bt327.1 t302).bind fun t331 => (if t331 = true then (laws_FnExactRemove.j2 kj31 bt321.2 bt321.1 (bt327.2 != t303)) else (laws_FnExactRemove.j2 kj31 bt321.2 bt321.1 true))))) else (some false))))) = some true := by rw [if_neg (show ¬ (false = true) by decide)] at H; exact H
                    clear H
                    have H := H1
                    clear H1
                    replace H := Option.bind_eq_some_iff.mp H
                    obtain ⟨⟨t321, t322⟩, A470, H⟩ := H
                    replace H : ((laws_heldEntryS.f kj31 t322 1).bind fun t323 => (if t323 < 0 then (some false) else (if t323 = t321 then ((laws_toEntryS.f kj31 l0).bind fun t324 => ((impl_Remove.f kj31 t324 a1).bind fun bt327 => ((laws_eqEntryS.f kj31 bt327.1 t302).bind fun t331 => (if t331 = true then (laws_FnExactRemove.j2 kj31 t322 t321 (bt327.2 != t303)) else (laws_FnExactRemove.j2 kj31 t322 t321 true))))) else (some false)))) = some true := H
                    have A47 := Aside0.mk A470
                    clear A470
                    replace H := Option.bind_eq_some_iff.mp H
                    obtain ⟨t323, A480, H⟩ := H
                    replace H : (if t323 < 0 then (some false) else (if t323 = t321 then ((laws_toEntryS.f kj31 l0).bind fun t324 => ((impl_Remove.f kj31 t324 a1).bind fun bt327 => ((laws_eqEntryS.f kj31 bt327.1 t302).bind fun t331 => (if t331 = true then (laws_FnExactRemove.j2 kj31 t322 t321 (bt327.2 != t303)) else (laws_FnExactRemove.j2 kj31 t322 t321 true))))) else (some false))) = some true := H
                    have A48 := Aside0.mk A480
                    clear A480
                    by_cases c49 : t323 < 0
                    · rw [if_pos c49] at H
                      exact absurd H (by simp)
                    · rw [if_neg c49] at H
                      have c49b0 : decide (t323 < 0) = false := decide_eq_false c49
                      clear c49
                      by_cases c53 : t323 = t321
                      · rw [if_pos c53] at H
                        have c53b0 : (t323 == t321) = true := beq_iff_eq.mpr c53
                        have c53b1 : (t323 != t321) = false := bne_eq_false_iff_eq.mpr c53
                        clear c53
                        replace H := Option.bind_eq_some_iff.mp H
                        obtain ⟨t324, A540, H⟩ := H
                        replace H : ((impl_Remove.f kj31 t324 a1).bind fun bt327 => ((laws_eqEntryS.f kj31 bt327.1 t302).bind fun t331 => (if t331 = true then (laws_FnExactRemove.j2 kj31 t322 t321 (bt327.2 != t303)) else (laws_FnExactRemove.j2 kj31 t322 t321 true)))) = some true := H
                        have A54 := Aside0.mk A540
                        clear A540
                        replace H := Option.bind_eq_some_iff.mp H
                        obtain ⟨⟨t327, t328⟩, A550, H⟩ := H
                        replace H : ((laws_eqEntryS.f kj31 t327 t302).bind fun t331 => (if t331 = true then (laws_FnExactRemove.j2 kj31 t322 t321 (t328 != t303)) else (laws_FnExactRemove.j2 kj31 t322 t321 true))) = some true := H
                        have A55 := Aside0.mk A550
                        clear A550
                        have HC56 := Aside0.mk H
                        clear H
                        obtain ⟨Ao57, co57, eo57⟩ := Kd.R_slice HO_9.out
                        subst eo57
                        go_upto_region 27 with (first | ((with_reducible refine gate_callee (f := 20) rfl ?_); refine goesL_ (some 71) rfl rfl Try.func20 (by kernel_rfl) rfl #[.slice Ao57 t309.length co57, .int .i64 1] rfl gA ?_; (with_reducible refine (laws_markEntryS.calls kj31 (fun k_ => some k_ = (.slice Ao57 t309.length co57 : Value).ownBlock) (.slice Ao57 t309.length co57) t309 1 t321 t322 w _ ?side1 ?side2 A47.out).mono ?_); (case side1 => repeat (first | (with_reducible first | exact HB.out | apply below_alloc | apply pw_below_drewN | apply below_drew1) | exact HB.out)); (case side2 => exact Kd.R_tight rfl HO_9.out); rintro e w58 ⟨rfl, hy0, hb, hkp⟩; refine ⟨_, rfl, ?_⟩; have n0_ := Aside0.mk (Kd.R_mono (ok' := fun k_ => some k_ ≠ (.slice Ao57 t309.length co57 : Value).ownBlock) (Kd.R_keptB (HO_6.out) hkp (fun k_ hk_ hs_ => (hk_) hs_)) (fun k_ hk_ => hk_.1)); have n1_ := Aside0.mk (Kd.R_reok rfl hy0 (fun k_ e_ => HO_9.out.1 k_ e_)); have n2_ := Aside0.mk (hb); clear HO_6; clear HO_9; clear HB; have HO_6 := n0_; have HO_9 := n1_; have HB := n2_; clear n0_ n1_ n2_; (try clear hb); (try clear hkp); (try clear hy0)) | ((with_reducible refine gate_callee (f := 21) rfl ?_); refine goesL_ (some 74) rfl rfl Try.func21 (by kernel_rfl) rfl #[.slice Ao57 t322.length co57, .int .i64 1] rfl (by (try simp only [List.map_toArray, List.map_cons, List.map_nil]); first | done | (rw [show t322.length = t309.length from (Kd.R_reads' HO_9.out).1.symm] <;> rfl) | rfl | (simp only [List.length_drop, List.length_take]; rfl)) ?_; (with_reducible refine (laws_heldEntryS.calls kj31 _ _ t322 1 t323 _ ?side1 ?side2 A48.out).mono ?_); (case side1 => repeat (first | exact (Kd.R_reads' HO_9.out).2.2 | (with_reducible refine Kd.C_alloc ?_ _) | (with_reducible refine Kd.C_drewN ?_ _) | (with_reducible refine Kd.C_drew ?_))); (case side2 => rw [show t322.length = t309.length from (Kd.R_reads' HO_9.out).1.symm]; exact (Kd.R_reads' HO_9.out).2.1); rintro e w59 ⟨rfl, hb⟩; refine ⟨_, rfl, ?_⟩; have n0_ := Aside0.mk (Kd.R_below (pR HO_6) hb); have n1_ := Aside0.mk (Kd.R_below (pR HO_9) hb); have n2_ := Aside0.mk (below_step (w := w) bW hb); clear HO_6; clear HO_9; clear HB; have HO_6 := n0_; have HO_9 := n1_; have HB := n2_; clear n0_ n1_ n2_; (try clear hb); (try clear hb2); (try clear hk); (try clear hi)) | ((with_reducible refine gate_callee (f := 17) rfl ?_); refine goesL_ (some 82) rfl rfl Try.func17 (by kernel_rfl) rfl #[.slice A0 l0.length c0] rfl gA ?_; (with_reducible refine (laws_toEntryS.calls kj31 _ _ l0 t324 _ ?side1 ?side2 A54.out).mono ?_); (case side1 => exact cB HR0); (case side2 => exact HC0.out); rintro e w60 ⟨v325, rfl, ho0, hb⟩; refine ⟨_, rfl, ?_⟩; have n0_ := Aside0.mk (Kd.R_elder' (pR HO_6) (Kd.R_base ho0) hb); have n1_ := Aside0.mk (Kd.R_elder' (pR HO_9) (Kd.R_base ho0) hb); have n2_ := Aside0.mk (Kd.R_lower (Kd.R_new' (Kd.R_new' ho0 (Kd.R_lt (pR HO_6))) (Kd.R_lt (pR HO_9))) (below_size (w := w) bW)); have n3_ := Aside0.mk (below_step (w := w) bW hb); clear HO_6; clear HO_9; clear HB; have HO_6 := n0_; have HO_9 := n1_; have HO326 := n2_; have HB := n3_; clear n0_ n1_ n2_ n3_; (try clear hb); (try clear hb2); (try clear hk); (try clear hi); (try clear ho0); obtain ⟨Ao61, co61, eo61⟩ := Kd.R_slice HO326.out; subst eo61) | ((with_reducible refine gate_callee (f := 23) rfl ?_); refine goesL_ (some 84) rfl rfl Try.func23 (by kernel_rfl) rfl #[.slice Ao61 t324.length co61, .string a1] rfl gA ?_; (with_reducible refine (impl_Remove.calls kj31 _ _ t324 a1 t327 t328 _ ?side1 ?side2 A55.out).mono ?_); (case side1 => repeat (first | exact (Kd.R_reads' HO326.out).2.2 | (with_reducible refine Kd.C_alloc ?_ _) | (with_reducible refine Kd.C_drewN ?_ _) | (with_reducible refine Kd.C_drew ?_))); (case side2 => exact (Kd.R_reads' HO326.out).2.1); rintro e w62 ⟨v329, rfl, ho0, hb⟩; refine ⟨_, rfl, ?_⟩; have n0_ := Aside0.mk (Kd.R_elder' (pR HO_6) (Kd.R_base ho0) hb); have n1_ := Aside0.mk (Kd.R_elder' (pR HO_9) (Kd.R_base ho0) hb); have n2_ := Aside0.mk (Kd.R_elder' (pR HO326) (Kd.R_base ho0) hb); have n3_ := Aside0.mk (Kd.R_lower (Kd.R_new' (Kd.R_new' (Kd.R_new' ho0 (Kd.R_lt (pR HO_6))) (Kd.R_lt (pR HO_9))) (Kd.R_lt (pR HO326))) (below_size (w := w) bW)); have n4_ := Aside0.mk (below_step (w := w) bW hb); clear HO_6; clear HO_9; clear HO326; clear HB; have HO_6 := n0_; have HO_9 := n1_; have HO326 := n2_; have HO330 := n3_; have HB := n4_; clear n0_ n1_ n2_ n3_ n4_; (try clear hb); (try clear hb2); (try clear hk); (try clear hi); (try clear ho0)))
                        (try simp only [Act.put, List.setIfInBounds_toArray, List.set_cons_zero, List.set_cons_succ])
                        go_cut [95] (fun v95 wc => ∃ (kq : Nat) (x95_55 : Bool), v95 = .bool x95_55 ∧ Aside0 (laws_FnExactRemove.j2 kq t322 t321 x95_55 = some true) ∧ Aside0 (kq ≤ kj31) ∧ Aside0 (Kd.R k51 51 wc w.heap.size (fun _ => True) (.slice Ao57 t309.length co57) t322) ∧ Aside0 (Below w.heap.size w wc))
                        case first =>
                          have H := HC56.out
                          clear HC56
                          replace H := Option.bind_eq_some_iff.mp H
                          obtain ⟨t331, A630, H⟩ := H
                          replace H : (if t331 = true then (laws_FnExactRemove.j2 kj31 t322 t321 (t328 != t303)) else (laws_FnExactRemove.j2 kj31 t322 t321 true)) = some true := H
                          have A63 := Aside0.mk A630
                          clear A630
                          by_cases c64 : t331 = true
                          · subst c64
                            have H1 : (laws_FnExactRemove.j2 kj31 t322 t321 (t328 != t303)) = some true := by rw [if_pos rfl] at H; exact H
                            clear H
                            have H := H1
                            clear H1
                            have H' := Aside0.mk H
                            clear H
                            obtain ⟨Ao65, co65, eo65⟩ := Kd.R_slice HO330.out
                            subst eo65
                            obtain ⟨Ao66, co66, eo66⟩ := Kd.R_slice HO_6.out
                            subst eo66
                            go_wp2_with (first | ((with_reducible refine gate_callee (f := 19) rfl ?_); refine goesL_ (some 89) rfl rfl Try.func19 (by kernel_rfl) rfl #[.slice Ao65 t327.length co65, .slice Ao66 t302.length co66] rfl gA ?_; (with_reducible refine (laws_eqEntryS.calls kj31 _ _ t327 _ _ t302 true _ ?side1 ?side2 ?side3 ?side4 A63.out).mono ?_); (case side1 => repeat (first | exact (Kd.R_reads' HO330.out).2.2 | (with_reducible refine Kd.C_alloc ?_ _) | (with_reducible refine Kd.C_drewN ?_ _) | (with_reducible refine Kd.C_drew ?_))); (case side2 => exact (Kd.R_reads' HO330.out).2.1); (case side3 => repeat (first | exact (Kd.R_reads' HO_6.out).2.2 | (with_reducible refine Kd.C_alloc ?_ _) | (with_reducible refine Kd.C_drewN ?_ _) | (with_reducible refine Kd.C_drew ?_))); (case side4 => exact (Kd.R_reads' HO_6.out).2.1); rintro e w67 ⟨rfl, hb⟩; refine ⟨_, rfl, ?_⟩; have n0_ := Aside0.mk (Kd.R_below (pR HO_6) hb); have n1_ := Aside0.mk (Kd.R_below (pR HO_9) hb); have n2_ := Aside0.mk (Kd.R_below (pR HO326) hb); have n3_ := Aside0.mk (Kd.R_below (pR HO330) hb); have n4_ := Aside0.mk (below_step (w := w) bW hb); clear HO_6; clear HO_9; clear HO326; clear HO330; clear HB; have HO_6 := n0_; have HO_9 := n1_; have HO326 := n2_; have HO330 := n3_; have HB := n4_; clear n0_ n1_ n2_ n3_ n4_; (try clear hb); (try clear hb2); (try clear hk); (try clear hi)))
                            go_meet
                            case rel => exact ⟨_, ((t328 != t303)), vE, H', ⟨by have := HJ10.out; have := HJ31.out; first | omega | exact Nat.le_refl _⟩, ⟨by (with_reducible repeat (first | apply Kd.R_alloc | apply Kd.R_drewN | apply Kd.R_drew)); exact Kd.R_mono HO_9.out (fun _ hk => trivial)⟩, ⟨bW⟩⟩
                          · replace c64 := Bool.eq_false_iff.mpr c64
                            subst c64
                            have H1 : (laws_FnExactRemove.j2 kj31 t322 t321 true) = some true := by rw [if_neg (show ¬ (false = true) by decide)] at H; exact H
                            clear H
                            have H := H1
                            clear H1
                            have H' := Aside0.mk H
                            clear H
                            obtain ⟨Ao68, co68, eo68⟩ := Kd.R_slice HO330.out
                            subst eo68
                            obtain ⟨Ao69, co69, eo69⟩ := Kd.R_slice HO_6.out
                            subst eo69
                            go_wp2_with (first | ((with_reducible refine gate_callee (f := 19) rfl ?_); refine goesL_ (some 89) rfl rfl Try.func19 (by kernel_rfl) rfl #[.slice Ao68 t327.length co68, .slice Ao69 t302.length co69] rfl gA ?_; (with_reducible refine (laws_eqEntryS.calls kj31 _ _ t327 _ _ t302 false _ ?side1 ?side2 ?side3 ?side4 A63.out).mono ?_); (case side1 => repeat (first | exact (Kd.R_reads' HO330.out).2.2 | (with_reducible refine Kd.C_alloc ?_ _) | (with_reducible refine Kd.C_drewN ?_ _) | (with_reducible refine Kd.C_drew ?_))); (case side2 => exact (Kd.R_reads' HO330.out).2.1); (case side3 => repeat (first | exact (Kd.R_reads' HO_6.out).2.2 | (with_reducible refine Kd.C_alloc ?_ _) | (with_reducible refine Kd.C_drewN ?_ _) | (with_reducible refine Kd.C_drew ?_))); (case side4 => exact (Kd.R_reads' HO_6.out).2.1); rintro e w70 ⟨rfl, hb⟩; refine ⟨_, rfl, ?_⟩; have n0_ := Aside0.mk (Kd.R_below (pR HO_6) hb); have n1_ := Aside0.mk (Kd.R_below (pR HO_9) hb); have n2_ := Aside0.mk (Kd.R_below (pR HO326) hb); have n3_ := Aside0.mk (Kd.R_below (pR HO330) hb); have n4_ := Aside0.mk (below_step (w := w) bW hb); clear HO_6; clear HO_9; clear HO326; clear HO330; clear HB; have HO_6 := n0_; have HO_9 := n1_; have HO326 := n2_; have HO330 := n3_; have HB := n4_; clear n0_ n1_ n2_ n3_ n4_; (try clear hb); (try clear hb2); (try clear hk); (try clear hi)))
                            go_meet
                            case rel => exact ⟨_, (true), vE, H', ⟨by have := HJ10.out; have := HJ31.out; first | omega | exact Nat.le_refl _⟩, ⟨by (with_reducible repeat (first | apply Kd.R_alloc | apply Kd.R_drewN | apply Kd.R_drew)); exact Kd.R_mono HO_9.out (fun _ hk => trivial)⟩, ⟨bW⟩⟩
                        case rest =>
                          clear HC56
                          try clear c1
                          try clear c2
                          try clear p2
                          try clear c3
                          try clear c3b0
                          try clear c3b1
                          try clear c4
                          try clear c5
                          try clear c5b0
                          try clear c6
                          try clear c15
                          try clear c17
                          try clear c19
                          try clear c20
                          try clear c21
                          try clear c22
                          try clear c23
                          try clear c27
                          try clear c30
                          try clear c37
                          try clear c37b0
                          try clear c39
                          try clear c46
                          try clear c49
                          try clear c49b0
                          try clear c53
                          try clear c53b0
                          try clear c53b1
                          try clear c64
                          try clear p2
                          obtain ⟨kq, x95_55, rfl, HA, HJ55, HO_9, HB⟩ := hcut
                          have hl9_55 := (Kd.R_reads' HO_9.out).1
                          rw [hl9_55] at HO_9
                          (try simp only [hl9_55])
                          cases kq with
                          | zero => exact absurd HA.out (by simp [laws_FnExactRemove.j2])
                          | succ kj55 =>
                            have H := HA.out
                            clear HA
                            simp only [laws_FnExactRemove.j2] at H
                            by_cases c71 : x95_55 = true
                            · subst c71
                              have H1 : (some false) = some true := by rw [if_pos rfl] at H; exact H
                              exact absurd H1 (by simp)
                            · replace c71 := Bool.eq_false_iff.mpr c71
                              subst c71
                              have H1 : ((laws_heldEntryS.f kj55 t322 1).bind fun t332 => (if t332 < 0 then (some false) else (if t332 = t321 then (some true) else (some false)))) = some true := by rw [if_neg (show ¬ (false = true) by decide)] at H; exact H
                              clear H
                              have H := H1
                              clear H1
                              replace H := Option.bind_eq_some_iff.mp H
                              obtain ⟨t332, A720, H⟩ := H
                              replace H : (if t332 < 0 then (some false) else (if t332 = t321 then (some true) else (some false))) = some true := H
                              have A72 := Aside0.mk A720
                              clear A720
                              by_cases c73 : t332 < 0
                              · rw [if_pos c73] at H
                                exact absurd H (by simp)
                              · rw [if_neg c73] at H
                                have c73b0 : decide (t332 < 0) = false := decide_eq_false c73
                                clear c73
                                by_cases c75 : t332 = t321
                                · rw [if_pos c75] at H
                                  have c75b0 : (t332 == t321) = true := beq_iff_eq.mpr c75
                                  have c75b1 : (t332 != t321) = false := bne_eq_false_iff_eq.mpr c75
                                  clear c75
                                  clear H
                                  go_wp2_with (first | ((with_reducible refine gate_callee (f := 21) rfl ?_); refine goesL_ (some 98) rfl rfl Try.func21 (by kernel_rfl) rfl #[.slice Ao57 t322.length co57, .int .i64 1] rfl gA ?_; (with_reducible refine (laws_heldEntryS.calls kj55 _ _ t322 1 t332 _ ?side1 ?side2 A72.out).mono ?_); (case side1 => repeat (first | exact (Kd.R_reads' HO_9.out).2.2 | (with_reducible refine Kd.C_alloc ?_ _) | (with_reducible refine Kd.C_drewN ?_ _) | (with_reducible refine Kd.C_drew ?_))); (case side2 => exact (Kd.R_reads' HO_9.out).2.1); rintro e w76 ⟨rfl, hb⟩; refine ⟨_, rfl, ?_⟩; have n0_ := Aside0.mk (Kd.R_below (pR HO_9) hb); have n1_ := Aside0.mk (below_step (w := w) bW hb); clear HO_9; clear HB; have HO_9 := n0_; have HB := n1_; clear n0_ n1_; (try clear hb); (try clear hb2); (try clear hk); (try clear hi)))
                                  go_ret
                                  exact ⟨rE, bW⟩
                                · rw [if_neg c75] at H
                                  exact absurd H (by simp)
                      · rw [if_neg c53] at H
                        exact absurd H (by simp)
            · replace c30 := Bool.eq_false_iff.mpr c30
              subst c30
              have H1 : (some false) = some true := by rw [if_neg (show ¬ (false = true) by decide)] at H; exact H
              exact absurd H1 (by simp)
end Go.Proofs.Ytcpljigliklgcaa.Q
end

section
namespace Go.Proofs.Ytcpljigliklgcaa.Q
open Go.RowKit Go.Proofs.YtcpljigliklgcaaW.PrintWords Go.Proofs.YtcpljigliklgcaaW.PrintLast Go.Proofs.YtcpljigliklgcaaW.PrintMore
attribute [local go_sem] max2_int min2_int max_two min_two max_three min_three max_four min_four   -- for this text's walks alone
set_option linter.unusedVariables false
set_option linter.unusedSimpArgs false
attribute [local go_sem] bin_leq bin_gtr bin_geq
def Opens {α : Type} (P : Program) (d : Kd α) (t : TypeId) (G : α → Prop) : Prop :=
  P.cellsOf t = d.sz ∧ ∀ {H : Type} (enc : TypeId × Value → H) (w : World) (base : Nat) (spare : Nat → Bool) (held : Bool) (fuel : Nat) (cs : List Value) (x : DataW H × List MemPlace),
    DataW.trod enc P w base spare held fuel t cs = some x → ∃ v, d.K w v cs ∧ G v
theorem add_twice (a : Addr) (m i : Nat) : (a.add m).add i = a.add (m + i) := by
  unfold Addr.add
  by_cases h1 : m = 0 <;> by_cases h2 : i = 0 <;> simp_all [Nat.add_assoc]
theorem opens_int {P : Program} {t : TypeId} {k : IntKind} (ht : P.underlying t = some (.int k)) (hc : P.cellsOf t = 1) : Opens P (Kd.int k) t (fun n => (Lit.int k n).wf = true) := by
  refine ⟨hc, fun enc w base spare held fuel cs x h => ?_⟩
  cases fuel with
  | zero => simp [DataW.trod] at h
  | succ n =>
    unfold DataW.trod at h
    rw [ht] at h
    split at h <;> simp_all
    obtain ⟨⟨rfl, h1⟩, _⟩ := h
    exact ⟨_, rfl, h1⟩
theorem opens_string {P : Program} {t : TypeId} (ht : P.underlying t = some .string) (hc : P.cellsOf t = 1) : Opens P Kd.string t (fun s => s.size ≤ 9223372036854775807) := by
  refine ⟨hc, fun enc w base spare held fuel cs x h => ?_⟩
  cases fuel with
  | zero => simp [DataW.trod] at h
  | succ n =>
    unfold DataW.trod at h
    rw [ht] at h
    split at h <;> simp_all
    exact ⟨_, rfl, h.1⟩
theorem list_of {α : Type} {Q : Nat → α → Prop} : ∀ n, (∀ i, i < n → ∃ v, Q i v) → ∃ l : List α, l.length = n ∧ ∀ i v, l[i]? = some v → Q i v
  | 0, _ => ⟨[], rfl, fun i v h => by simp at h⟩
  | n + 1, h => by
    obtain ⟨l, hl, hq⟩ := list_of n (fun i hi => h i (by omega))
    obtain ⟨v, hv⟩ := h n (by omega)
    refine ⟨l ++ [v], by simp [hl], fun i u hu => ?_⟩
    by_cases hi : i < l.length
    · rw [List.getElem?_append_left hi] at hu
      exact hq i u hu
    · have hi2 : i = l.length := by
        have := (List.getElem?_eq_some_iff.1 hu).1
        rw [List.length_append, List.length_singleton] at this
        omega
      subst hi2
      have hu' : v = u := by simpa using hu
      subst hu'
      rw [hl]
      exact hv
theorem opens_slice {α : Type} {P : Program} {d : Kd α} {t e : TypeId} {G : α → Prop} (ht : P.underlying t = some (.slice e)) (hc : P.cellsOf t = 1) (O : Opens P d e G) :
    Opens P (Kd.slice e d) t (fun l => l.length ≤ 9223372036854775807 ∧ ∀ x, x ∈ l → G x) := by
  refine ⟨hc, fun enc w base spare held fuel cs x h => ?_⟩
  rcases DataW.trod_slice ht h with ⟨rfl, _⟩ | ⟨a, len, cap, elems, rest, n, _, rfl, _, hb, hl, hm, hlen, hel, _, _⟩
  · exact ⟨[], ⟨none, 0, rfl, Nat.le_refl _, Kd.C_nil d w⟩, by simp, fun x hx => by simp at hx⟩
  · have each : ∀ i, i < len → ∃ v : α, (∃ c, c.length = d.sz ∧ d.K w v c ∧ ∀ j u, c[j]? = some u → w.cell? (a.add (i * d.sz + j)) = some u) ∧ G v := by
      intro i hi
      have h1 := hel i hi
      have h2 : elems[i]? = some (elems[i]'(by omega)) := List.getElem?_eq_getElem (by omega)
      rw [h2, Option.bind_eq_some_iff] at h1
      obtain ⟨c, hcc, htr⟩ := h1
      obtain ⟨v, hK, hG⟩ := O.2 enc w base spare held n c _ htr
      obtain ⟨_, hcl, hcells⟩ := World.cells?_some hcc
      refine ⟨v, ⟨c, d.K_len hK, hK, fun j u hu => ?_⟩, hG⟩
      have hj : j < c.length := (List.getElem?_eq_some_iff.1 hu).1
      have := hcells j (by omega)
      rw [hu, add_twice, O.1] at this
      exact this
    obtain ⟨l, hll, hq⟩ := list_of len each
    refine ⟨l, ⟨some a, cap, by rw [hll], by omega, hll ▸ ?_⟩, by unfold maxLen at hm; omega, fun x hx => ?_⟩
    · refine ⟨hll, by unfold maxLen at hm; omega, fun hp => ⟨a, rfl, fun j p hj => ?_⟩⟩
      obtain ⟨c, h1, h2, h3⟩ := (hq j p hj).1
      exact ⟨c, h1, h2, h3⟩
    · obtain ⟨i, hi, rfl⟩ := List.mem_iff_getElem.mp hx
      exact (hq i _ (List.getElem?_eq_getElem hi)).2
theorem open_row {α : Type} {P : Program} {d : Kd α} {t e : TypeId} {G : List α → Prop} (O : Opens P (Kd.slice e d) t G) {H : Type} {enc : TypeId × Value → H} {w : World} {base : Nat} {spare : Nat → Bool} {held : Bool} {a : Option Addr} {len cap : Nat} {x : DataW H} {ps : List MemPlace}
    (h : DataW.Trod enc P w base spare held t (.slice a len cap) x ps) : ∃ l, len = l.length ∧ l.length ≤ cap ∧ Kd.C d w a l.length l ∧ G l := by
  obtain ⟨fuel, hf⟩ := h
  obtain ⟨l, ⟨A, c, he, hl, hC⟩, hG⟩ := O.2 enc w base spare held fuel _ _ hf
  simp only [Value.cells] at he
  have he2 : Value.slice a len cap = Value.slice A l.length c := by simpa using he
  injection he2 with h1 h2 h3
  subst h1 h2 h3
  exact ⟨l, rfl, hl, hC, hG⟩
end Go.Proofs.Ytcpljigliklgcaa.Q
end

section
namespace Go.Proofs.Ytcpljigliklgcaa.Q
open Go.RowKit Go.Proofs.YtcpljigliklgcaaW.PrintWords Go.Proofs.YtcpljigliklgcaaW.PrintLast Go.Proofs.YtcpljigliklgcaaW.PrintMore
attribute [local go_sem] max2_int min2_int max_two min_two max_three min_three max_four min_four   -- for this text's walks alone
set_option linter.unusedVariables false
set_option linter.unusedSimpArgs false
attribute [local go_sem] bin_leq bin_gtr bin_geq
def good125 (x : S125) : Prop := (fun s => s.size ≤ 9223372036854775807) x.f0 ∧ (fun n => (Lit.int .i64 n).wf = true) x.f1
set_option maxRecDepth 100000 in
theorem opens_125 : Opens Try.prog k125 125 good125 := by
  refine ⟨by kernel_rfl, fun enc w base spare held fuel cs x h => ?_⟩
  obtain ⟨xs, n, _, _, hcl, hxl, hf⟩ := DataW.trod_struct Try.underlying125 h
  have hcl2 : cs.length = 2 := hcl.trans (by kernel_rfl)
  obtain ⟨c0, c1, rfl⟩ : ∃ c0 c1, cs = [c0, c1] := by
    match cs, hcl2 with
    | [c0, c1], _ => exact ⟨c0, c1, rfl⟩
  have h0 := hf 0 _ rfl
  rw [List.getElem?_eq_getElem (show 0 < xs.length by rw [hxl]; decide)] at h0
  obtain ⟨v0, K0, G0⟩ := (opens_string Try.underlying9 (by kernel_rfl)).2 enc w base spare held n [c0] _ ((show DataW.trod enc Try.prog w base spare held n 9 [c0] = _ from (by first | exact h0 | (rw [show Try.prog.cellsOf 9 = 1 by kernel_rfl] at h0; exact h0))))
  have h1 := hf 1 _ rfl
  rw [List.getElem?_eq_getElem (show 1 < xs.length by rw [hxl]; decide)] at h1
  obtain ⟨v1, K1, G1⟩ := (opens_int (k := .i64) Try.underlying3 (by kernel_rfl)).2 enc w base spare held n [c1] _ ((show DataW.trod enc Try.prog w base spare held n 3 [c1] = _ from (by first | exact h1 | (rw [show Try.prog.cellsOf 3 = 1 by kernel_rfl] at h1; exact h1))))
  exact ⟨⟨v0, v1⟩, ⟨[c0], [c1], rfl, K0, K1⟩, ⟨G0, G1⟩⟩
end Go.Proofs.Ytcpljigliklgcaa.Q
end

section
namespace Go.Proofs.Ytcpljigliklgcaa.Q
open Go.RowKit Go.Proofs.YtcpljigliklgcaaW.PrintWords Go.Proofs.YtcpljigliklgcaaW.PrintLast Go.Proofs.YtcpljigliklgcaaW.PrintMore
attribute [local go_sem] max2_int min2_int max_two min_two max_three min_three max_four min_four   -- for this text's walks alone
set_option linter.unusedVariables false
set_option linter.unusedSimpArgs false
attribute [local go_sem] bin_leq bin_gtr bin_geq
def laws_FnExactRemove.Pure : Prop := ∀ (l0 : List (S125)) (a1 : ByteArray), (fun l => l.length ≤ 9223372036854775807 ∧ ∀ x, x ∈ l → good125 x) l0 → a1.size ≤ 140737488351232 → ∃ k, laws_FnExactRemove.f k l0 a1 = some true
theorem laws_FnExactRemove.walk (P : laws_FnExactRemove.Pure) (A0 : Option Addr) (c0 : Nat) (l0 : List (S125)) (a1 : ByteArray) (w : World) (w0 : (fun l => l.length ≤ 9223372036854775807 ∧ ∀ x, x ∈ l → good125 x) l0) (w1 : a1.size ≤ 140737488351232) (hr0 : Kd.C k125 w A0 l0.length l0) (hc0 : l0.length ≤ c0) :
    Calls Try.prog 4 #[.slice A0 l0.length c0, .string a1] w fun e w' => e = .returned (.bool true) ∧ Below w.heap.size w w' := by
  obtain ⟨k, hk⟩ := P l0 a1 w0 w1
  exact (laws_FnExactRemove.calls k A0 c0 l0 a1 w hr0 hc0 hk).mono fun e w' h => ⟨h.1, h.2⟩
end Go.Proofs.Ytcpljigliklgcaa.Q
end

section
namespace Go.Proofs.Ytcpljigliklgcaa.Q
open Go.RowKit Go.Proofs.YtcpljigliklgcaaW.PrintWords Go.Proofs.YtcpljigliklgcaaW.PrintLast
theorem isValue_f (n : Int) : impl_isValue.f n = some (inB n (-1000000) 1000000) := by
  unfold impl_isValue.f impl_within.f inB
  by_cases h : (-1000000 : Int) ≤ n <;> simp [h]
theorem mapOK_l0 (l : List S51) (hlen : l.length ≤ 4611686018427387904) (d : Nat) : ∀ i : Nat, i + d = l.length → (∀ j, j < i → entAt l j = true) → Ev (fun k => impl_MapOK.l0 k l l (l.length : Int) (i : Int)) (mapB l) := by
  induction d with
  | zero =>
    intro i hi hp
    have e : mapB l = decide ((l.length : Int) ≤ 12) := by
      unfold mapB
      rw [allR_true (fun j hj => hp j (by omega)), Bool.and_true]
      by_cases h : l.length ≤ 12
      · rw [decide_eq_true h, decide_eq_true (by omega)]
      · rw [decide_eq_false h, decide_eq_false (by omega)]
    rw [e]
    exact Ev.step (f := fun _ => some (decide ((l.length : Int) ≤ 12))) (fun k => by simp only [impl_MapOK.l0]; rw [if_neg (by omega)]) (Ev.now _)
  | succ d ih =>
    intro i hi hp
    have hw : wrap64 ((i : Int) + 1) = ((i + 1 : Nat) : Int) := by unfold wrap64; omega
    have hbad : entAt l i = false → mapB l = false := fun h => by
      unfold mapB
      rw [allR_false (j := i) (by omega) h, Bool.and_false]
    have hgo : entAt l i = true → Ev (fun k => impl_MapOK.l0 k l l (l.length : Int) ((i + 1 : Nat) : Int)) (mapB l) := fun h => ih (i + 1) (by omega) (fun j hj => by
      by_cases e : j = i
      · rw [e]; exact h
      · exact hp j (by omega))
    have E : entAt l i = (nameB (rd_T51 l (i : Int)).f0 && inB (rd_T51 l (i : Int)).f1 (-1000000) 1000000 && (i == 0 || sblt (rd_T51 l ((i : Int) - 1)).f0 (rd_T51 l (i : Int)).f0)) := rfl
    have c1 : (i : Int) < (l.length : Int) := by omega
    have c2 : (0 : Int) ≤ (i : Int) := by omega
    cases hN : nameB (rd_T51 l (i : Int)).f0 with
    | false =>
      rw [hbad (by rw [E, hN]; rfl)]
      refine Ev.step (f := fun _ => some false) (fun k => ?_) (Ev.now _)
      simp only [impl_MapOK.l0, impl_NameOK.f, hN, if_pos c1, if_pos c2, Option.bind_some, Bool.false_eq_true, if_false]
    | true =>
      cases hV : inB (rd_T51 l (i : Int)).f1 (-1000000) 1000000 with
      | false =>
        rw [hbad (by rw [E, hN, hV]; rfl)]
        refine Ev.step (f := fun _ => some false) (fun k => ?_) (Ev.now _)
        simp only [impl_MapOK.l0, impl_NameOK.f, isValue_f, hN, hV, if_pos c1, if_pos c2, Option.bind_some, Bool.false_eq_true, if_false, if_true]
      | true =>
        by_cases hz : i = 0
        · have hg := hgo (by rw [E, hN, hV]; simp [hz])
          refine Ev.step (fun k => ?_) hg
          have c3 : ¬ ((i : Int) > 0) := by omega
          simp only [impl_MapOK.l0, impl_NameOK.f, isValue_f, hN, hV, if_pos c1, if_pos c2, if_neg c3, Option.bind_some, if_true, hw]
        · have c3 : (i : Int) > 0 := by omega
          have hw2 : wrap64 ((i : Int) - 1) = (i : Int) - 1 := by unfold wrap64; omega
          have c4 : (0 : Int) ≤ (i : Int) - 1 := by omega
          have c5 : (i : Int) - 1 < (l.length : Int) := by omega
          have z : (i == 0) = false := by simp [hz]
          cases hS : sblt (rd_T51 l ((i : Int) - 1)).f0 (rd_T51 l (i : Int)).f0 with
          | false =>
            rw [hbad (by rw [E, hN, hV, hS, z]; rfl)]
            have hS1 : Op.bytesLess (rd_T51 l ((i : Int) - 1)).f0.toList (rd_T51 l (i : Int)).f0.toList = false := hS
            refine Ev.step (f := fun _ => some false) (fun k => ?_) (Ev.now _)
            simp only [impl_MapOK.l0, impl_NameOK.f, isValue_f, hN, hV, hS1, hw2, if_pos c1, if_pos c2, if_pos c3, if_pos c4, if_pos c5, Option.bind_some, if_true, Bool.false_eq_true, if_false]
          | true =>
            have hg := hgo (by rw [E, hN, hV, hS]; simp)
            have hS1 : Op.bytesLess (rd_T51 l ((i : Int) - 1)).f0.toList (rd_T51 l (i : Int)).f0.toList = true := hS
            refine Ev.step (fun k => ?_) hg
            simp only [impl_MapOK.l0, impl_NameOK.f, isValue_f, hN, hV, hS1, hw2, if_pos c1, if_pos c2, if_pos c3, if_pos c4, if_pos c5, Option.bind_some, if_true, hw]
theorem mapOK_ev (l : List S51) (hlen : l.length ≤ 4611686018427387904) : Ev (fun k => impl_MapOK.f k l) (mapB l) := mapOK_l0 l hlen l.length 0 (by omega) (fun j hj => absurd hj (Nat.not_lt_zero _))
end Go.Proofs.Ytcpljigliklgcaa.Q
end

section
namespace Go.Proofs.Ytcpljigliklgcaa.Q
open Go.RowKit Go.Proofs.YtcpljigliklgcaaW.PrintWords Go.Proofs.YtcpljigliklgcaaW.PrintLast
theorem l00Word_ev (s : ByteArray) : Ev (fun k => spec_l00Word.f k s) (nameB s) := Ev.of (fun k => spec_l00Word.mono s k) (l00Word_f s)
end Go.Proofs.Ytcpljigliklgcaa.Q
end

section
namespace Go.Proofs.Ytcpljigliklgcaa.Q
open Go.RowKit Go.Proofs.YtcpljigliklgcaaW.PrintWords Go.Proofs.YtcpljigliklgcaaW.PrintLast Go.Proofs.YtcpljigliklgcaaW.PrintMore
attribute [local go_sem] max2_int min2_int max_two min_two max_three min_three max_four min_four   -- for this text's walks alone
set_option linter.unusedVariables false
set_option linter.unusedSimpArgs false
attribute [local go_sem] bin_leq bin_gtr bin_geq
theorem eqA51 (d : Nat) (w : World) (x0 y0 : ByteArray) (x1 y1 : Int) :
    (Op.equalIn (d + 2) 51 (.agg #[.string x0, .int .i64 x1]) (.agg #[.string y0, .int .i64 y1])).run Try.prog w = .ok (x0.toList == y0.toList && (x1 == y1)) w := by
  refine eqA_of Try.underlying51 (by kernel_rfl) ?_
  refine eqf_cons (by rfl) (by go_simp; rfl) (by go_simp; rfl) (by go_simp) ?_
  exact eqf_last (by rfl) (by go_simp; rfl) (by go_simp; rfl) (by go_simp)
end Go.Proofs.Ytcpljigliklgcaa.Q
end
