/- Parts of the proof of the law FnExactMergeCommits, joined into one text. -/
import Derived.Test.YtblejbgkcgajgaaGreatMFnExactMergeCommits2
section
namespace Go.Proofs.YtblejbgkcgajgaaGreat.Q
open Go.RowKit Go.Proofs.YtblejbgkcgajgaaGreatW.PrintWords Go.Proofs.YtblejbgkcgajgaaGreatW.PrintLast Go.Proofs.YtblejbgkcgajgaaGreatW.PrintMore
attribute [local go_sem] max2_int min2_int max_two min_two max_three min_three max_four min_four   -- for this text's walks alone
set_option linter.unusedVariables false
set_option linter.unusedSimpArgs false
attribute [local go_sem] bin_leq bin_gtr bin_geq
mutual
def spec_l01Diff.l0 : Nat → List (S84) → List (S84) → List (S68) → Int → Int → Option ((List (S68)))
  | 0, _, _, _, _, _ => none
  | k + 1, x0, x1, x5, x6, x7 => if x6 < (x0.length : Int) then (spec_l01Diff.j1 k x0 x1 x5 x6 x7 true) else (spec_l01Diff.j1 k x0 x1 x5 x6 x7 (decide (x7 < (x1.length : Int))))
def spec_l01Diff.j1 : Nat → List (S84) → List (S84) → List (S68) → Int → Int → Bool → Option ((List (S68)))
  | 0, _, _, _, _, _, _ => none
  | k + 1, x0, x1, x5, x6, x7, x18 => if x18 = true then (if x7 = (x1.length : Int) then (spec_l01Diff.j2 k x0 x1 x5 x6 x7 true) else (if x6 < (x0.length : Int) then (if 0 ≤ x6 then (if 0 ≤ x7 then (if x7 < (x1.length : Int) then (spec_l01Diff.j2 k x0 x1 x5 x6 x7 (Op.bytesLess (((rd_T84 x0 x6).f0).toList) (((rd_T84 x1 x7).f0).toList))) else (none)) else (none)) else (none)) else (spec_l01Diff.j2 k x0 x1 x5 x6 x7 false))) else (some x5)
def spec_l01Diff.j2 : Nat → List (S84) → List (S84) → List (S68) → Int → Int → Bool → Option ((List (S68)))
  | 0, _, _, _, _, _, _ => none
  | k + 1, x0, x1, x5, x6, x7, x48 => if x48 = true then (if 0 ≤ x6 then (if x6 < (x0.length : Int) then (if x5.length < 4398046511104 then (spec_l01Diff.l0 k x0 x1 (x5 ++ [(⟨(rd_T84 x0 x6).f0, 0, true⟩ : S68)]) (wrap64 (x6 + 1)) x7) else (none)) else (none)) else (none)) else (if x6 = (x0.length : Int) then (spec_l01Diff.j3 k x0 x1 x5 x6 x7 true) else (if 0 ≤ x7 then (if x7 < (x1.length : Int) then (if 0 ≤ x6 then (if x6 < (x0.length : Int) then (spec_l01Diff.j3 k x0 x1 x5 x6 x7 (Op.bytesLess (((rd_T84 x1 x7).f0).toList) (((rd_T84 x0 x6).f0).toList))) else (none)) else (none)) else (none)) else (none)))
def spec_l01Diff.j3 : Nat → List (S84) → List (S84) → List (S68) → Int → Int → Bool → Option ((List (S68)))
  | 0, _, _, _, _, _, _ => none
  | k + 1, x0, x1, x5, x6, x7, x83 => if x83 = true then (if 0 ≤ x7 then (if x7 < (x1.length : Int) then (if x5.length < 4398046511104 then (spec_l01Diff.l0 k x0 x1 (x5 ++ [(⟨(rd_T84 x1 x7).f0, (rd_T84 x1 x7).f1, false⟩ : S68)]) x6 (wrap64 (x7 + 1))) else (none)) else (none)) else (none)) else (if 0 ≤ x6 then (if x6 < (x0.length : Int) then (if 0 ≤ x7 then (if x7 < (x1.length : Int) then (if ((rd_T84 x0 x6).f1) = ((rd_T84 x1 x7).f1) then (spec_l01Diff.l0 k x0 x1 x5 (wrap64 (x6 + 1)) (wrap64 (x7 + 1))) else (if x5.length < 4398046511104 then (spec_l01Diff.l0 k x0 x1 (x5 ++ [(⟨(rd_T84 x1 x7).f0, (rd_T84 x1 x7).f1, false⟩ : S68)]) (wrap64 (x6 + 1)) (wrap64 (x7 + 1))) else (none))) else (none)) else (none)) else (none)) else (none))
end
def spec_l01Diff.f (k : Nat) (l0 : List (S84)) (l1 : List (S84)) : Option ((List (S68))) := spec_l01Diff.l0 k l0 l1 (([] : List (S68))) 0 0
def spec_l01Diff.T5 : Bool × List (List Nat × List Nat) := (true, [([], []), ([], []), ([0, 1], [0, 1]), ([2], [2]), ([3], [3]), ([], []), ([], []), ([5, 6], [5, 6]), ([7], [7]), ([8], [8]), ([4, 9], [4, 9])])
def spec_l01Diff.B5 : List Nat := [0, 0, 3, 7, 15, 0, 0, 96, 224, 480, 1023]
theorem spec_l01Diff.tab5 : rtab .any (opsOf Tryz.f31 5) = spec_l01Diff.T5 := by kernel_rfl
theorem spec_l01Diff.bits5 : waitsOk spec_l01Diff.T5.2 spec_l01Diff.B5 = true := by kernel_rfl
def spec_l01Diff.T6 : Bool × List (List Nat × List Nat) := (true, [([], []), ([], []), ([], []), ([1, 2], [1, 2]), ([3], [3]), ([4], [4]), ([], []), ([], []), ([6, 7], [6, 7]), ([8], [8]), ([9], [9]), ([5, 10], [5, 10]), ([11], [11]), ([0, 12], [0, 12]), ([13, 13, 0, 1, 2, 3, 4, 5, 6, 7, 8, 9, 10, 11, 12, 13], [0, 13])])
def spec_l01Diff.B6 : List Nat := [0, 0, 0, 6, 14, 30, 0, 0, 192, 448, 960, 2046, 4094, 8191, 16383]
theorem spec_l01Diff.tab6 : rtab .any (opsOf Tryz.f31 6) = spec_l01Diff.T6 := by kernel_rfl
theorem spec_l01Diff.bits6 : waitsOk spec_l01Diff.T6.2 spec_l01Diff.B6 = true := by kernel_rfl
def spec_l01Diff.T9 : Bool × List (List Nat × List Nat) := (true, [([], []), ([], []), ([1], [1]), ([0, 2], [0, 2]), ([3], [3]), ([4], [4]), ([4], [4]), ([6, 4], [4, 6]), ([5, 7, 4], [4, 5, 7]), ([8, 4, 4], [4, 8]), ([9], [9]), ([9], [9]), ([10, 11, 9], [9, 10, 11]), ([12, 9], [9, 12]), ([13, 9], [9, 13]), ([9], [9]), ([9], [9]), ([15, 16, 9], [9, 15, 16]), ([17, 9], [9, 17]), ([18, 9], [9, 18]), ([14, 19, 9], [9, 14, 19]), ([9, 20, 4], [4, 9, 20]), ([4, 21], [4, 21]), ([22, 9], [22])])
def spec_l01Diff.B9 : List Nat := [0, 0, 2, 7, 15, 31, 31, 95, 255, 511, 1023, 1023, 4095, 8191, 16383, 1023, 1023, 99327, 230399, 492543, 1048575, 2097151, 4194303, 8388607]
theorem spec_l01Diff.tab9 : rtab .any (opsOf Tryz.f31 9) = spec_l01Diff.T9 := by kernel_rfl
theorem spec_l01Diff.bits9 : waitsOk spec_l01Diff.T9.2 spec_l01Diff.B9 = true := by kernel_rfl
def spec_l01Diff.T12 : Bool × List (List Nat × List Nat) := (true, [([], []), ([], []), ([1], [1]), ([0, 2], [0, 2]), ([3], [3]), ([4], [4]), ([4], [4]), ([5, 6, 4], [4, 5, 6]), ([7, 4], [4, 7]), ([8, 4], [4, 8]), ([4], [4]), ([4], [4]), ([10, 11, 4], [4, 10, 11]), ([12, 4], [4, 12]), ([13, 4], [4, 13]), ([9, 14, 4], [4, 9, 14]), ([4, 15], [4, 15]), ([16, 4], [16])])
def spec_l01Diff.B12 : List Nat := [0, 0, 2, 7, 15, 31, 31, 127, 255, 511, 31, 31, 3103, 7199, 15391, 32767, 65535, 131071]
theorem spec_l01Diff.tab12 : rtab .any (opsOf Tryz.f31 12) = spec_l01Diff.T12 := by kernel_rfl
theorem spec_l01Diff.bits12 : waitsOk spec_l01Diff.T12.2 spec_l01Diff.B12 = true := by kernel_rfl
def spec_l01Diff.T13 : Bool × List (List Nat × List Nat) := (true, [([], []), ([], []), ([], []), ([1, 2], [1, 2]), ([3], [3]), ([4], [4]), ([], []), ([], []), ([6, 7], [6, 7]), ([8], [8]), ([9], [9]), ([5, 10], [5, 10]), ([11], [11]), ([0, 12], [0, 12]), ([13, 13, 0, 1, 2, 3, 4, 5, 6, 7, 8, 9, 10, 11, 12, 13], [0, 13])])
def spec_l01Diff.B13 : List Nat := [0, 0, 0, 6, 14, 30, 0, 0, 192, 448, 960, 2046, 4094, 8191, 16383]
theorem spec_l01Diff.tab13 : rtab .any (opsOf Tryz.f31 13) = spec_l01Diff.T13 := by kernel_rfl
theorem spec_l01Diff.bits13 : waitsOk spec_l01Diff.T13.2 spec_l01Diff.B13 = true := by kernel_rfl
set_option maxHeartbeats 8000000 in
set_option maxRecDepth 100000 in
theorem spec_l01Diff.calls (k : Nat) (A0 : Option Addr) (c0 : Nat) (l0 : List (S84)) (A1 : Option Addr) (c1 : Nat) (l1 : List (S84)) (r : List (S68)) (w : World) (hr0 : Kd.C k84 w A0 l0.length l0) (hc0 : l0.length ≤ c0) (hr1 : Kd.C k84 w A1 l1.length l1) (hc1 : l1.length ≤ c1) (h : spec_l01Diff.f k l0 l1 = some r) :
    Calls Tryz.prog 31 #[.slice A0 l0.length c0, .slice A1 l1.length c1] w fun e w' => ∃ v0_ : Value, e = .returned (v0_) ∧ Kd.R k68 68 w' w.heap.size (fun _ => True) v0_ r ∧ Below w.heap.size w w' := by
  have hu68 := Tryz.underlying68
  have HR0 := Aside0.mk hr0
  have HC0 := Aside0.mk hc0
  clear hr0 hc0
  have HR1 := Aside0.mk hr1
  have HC1 := Aside0.mk hc1
  clear hr1 hc1
  have HB := Aside0.mk (Below.refl w.heap.size w)
  have H : (spec_l01Diff.l0 k l0 l1 (([] : List (S68))) 0 0) = some r := h
  clear h
  obtain ⟨y148, hy148⟩ : ∃ y_ : List (S68), y_ = (([] : List (S68))) := ⟨_, rfl⟩
  replace H : (spec_l01Diff.l0 k l0 l1 y148 0 0) = some r := by (rw [hy148]; with_reducible exact H)
  have Ny148 := Aside0.mk hy148
  clear hy148
  have H' := Aside0.mk H
  clear H
  go_enter Tryz.func31, Tryz.ntmps31
  go_wp2_with (((with_reducible refine gate_dst (N := 8) rfl ?_); (try (refine gate_guard (by rfl) ?_; dsimp only)); refine Kd.R_lit k68 _ 68 ?hg (N := 8) ?hd (xs := ([] : List (S68))) (inner := []) (ok := fun _ => True) (okp := fun _ => True) ?hr ?hp (fun _ hk => hk) trivial (Below.refl _ _) (Nat.le_refl _) (by simp) ?_; (case hd => rfl); (case hg => rfl); (case hr => (go_simp; done)); (case hp => exact (Reps.none _ _)); intro v149 w3 ho4 hb hg_ hnew_; clear hg_ hnew_; (rw [← Ny148.out] at ho4); have n0_ := Aside0.mk (Kd.R_lower ho4 (below_size (w := w) bW)); have n1_ := Aside0.mk (below_step (w := w) bW hb); clear HB; have HO150 := n0_; have HB := n1_; clear n0_ n1_; clear hb ho4))
  go_loopg [5, 6, 7] k (fun kq v5 v6 v7 w' => ∃ (x5_1 : List (S68)) (x6_1 : Int) (x7_1 : Int), v6 = .int .i64 x6_1 ∧ v7 = .int .i64 x7_1 ∧ Aside0 (spec_l01Diff.l0 kq l0 l1 x5_1 x6_1 x7_1 = some r) ∧ Aside0 (kq ≤ k) ∧ Aside0 (Kd.R k68 68 w' w.heap.size (fun _ => True) v5 x5_1) ∧ Aside0 (Below w.heap.size w w'))
  case atStart => exact ⟨(y148), (0), (0), vE, vE, H', ⟨Nat.le_refl _⟩, ⟨by exact HO150.out⟩, ⟨bW⟩⟩
  case round =>
    clear H'
    obtain ⟨x5_1, x6_1, x7_1, rfl, rfl, HA, HK1, HO_5, HB⟩ := hrel
    cases gk with
    | zero => exact absurd HA.out (by simp [spec_l01Diff.l0])
    | succ k1 =>
      have H := HA.out
      clear HA
      simp only [spec_l01Diff.l0] at H
      have HC5 := Aside0.mk H
      clear H
      go_upto_region 4 with (fail)
      go_cut [18] (fun v18 wc => ∃ (kq : Nat) (x18_4 : Bool), v18 = .bool x18_4 ∧ Aside0 (spec_l01Diff.j1 kq l0 l1 x5_1 x6_1 x7_1 x18_4 = some r) ∧ Aside0 (kq ≤ k1) ∧ Aside0 (Kd.R k68 68 wc w.heap.size (fun _ => True) u5 x5_1) ∧ Aside0 (Below w.heap.size w wc))
      case first =>
        have H := HC5.out
        clear HC5
        by_cases c6 : x6_1 < (l0.length : Int)
        · rw [if_pos c6] at H
          have c6b0 : decide (x6_1 < (l0.length : Int)) = true := decide_eq_true c6
          clear c6
          have H' := Aside0.mk H
          clear H
          go_wp2
          go_meet
          case rel => exact ⟨_, (true), vE, H', ⟨by have := HK1.out; omega⟩, ⟨by exact HO_5.out⟩, ⟨bW⟩⟩
        · rw [if_neg c6] at H
          have c6b0 : decide (x6_1 < (l0.length : Int)) = false := decide_eq_false c6
          clear c6
          have H' := Aside0.mk H
          clear H
          go_wp2
          go_meet
          case rel => exact ⟨_, (decide (x7_1 < (l1.length : Int))), vE, H', ⟨by have := HK1.out; omega⟩, ⟨by exact HO_5.out⟩, ⟨bW⟩⟩
      case rest =>
        clear HC5
        obtain ⟨kq, x18_4, rfl, HA, HJ4, HO_5, HB⟩ := hcut
        cases kq with
        | zero => exact absurd HA.out (by simp [spec_l01Diff.j1])
        | succ kj4 =>
          have H := HA.out
          clear HA
          simp only [spec_l01Diff.j1] at H
          by_cases c7 : x18_4 = true
          · subst c7
            have H1 : (if x7_1 = (l1.length : Int) then (spec_l01Diff.j2 kj4 l0 l1 x5_1 x6_1 x7_1 true) else (if x6_1 < (l0.length : Int) then (if 0 ≤ x6_1 then (if 0 ≤ x7_1 then (if x7_1 < (l1.length : Int) then (spec_l01Diff.j2 kj4 l0 l1 x5_1 x6_1 x7_1 (Op.bytesLess (((rd_T84 l0 x6_1).f0).toList) (((rd_T84 l1 x7_1).f0).toList))) else (none)) else (none)) else (none)) else (spec_l01Diff.j2 kj4 l0 l1 x5_1 x6_1 x7_1 false))) = some r := by rw [if_pos rfl] at H; exact H
            clear H
            have H := H1
            clear H1
            have HC8 := Aside0.mk H
            clear H
            go_upto_region 9 with (fail)
            go_cut [48] (fun v48 wc => ∃ (kq : Nat) (x48_7 : Bool), v48 = .bool x48_7 ∧ Aside0 (spec_l01Diff.j2 kq l0 l1 x5_1 x6_1 x7_1 x48_7 = some r) ∧ Aside0 (kq ≤ kj4) ∧ Aside0 (Kd.R k68 68 wc w.heap.size (fun _ => True) u5 x5_1) ∧ Aside0 (Below w.heap.size w wc))
            case first =>
              have H := HC8.out
              clear HC8
              by_cases c9 : x7_1 = (l1.length : Int)
              · rw [if_pos c9] at H
                have c9b0 : (x7_1 == (l1.length : Int)) = true := beq_iff_eq.mpr c9
                have c9b1 : (x7_1 != (l1.length : Int)) = false := bne_eq_false_iff_eq.mpr c9
                clear c9
                have H' := Aside0.mk H
                clear H
                try go_wp2
                have n0_ := Aside0.mk (Kd.R_drew HO_5.out)
                have n1_ := Aside0.mk (below_drew1 HB.out)
                clear HO_5
                clear HB
                have HO_5 := n0_
                have HB := n1_
                clear n0_ n1_
                refine start_ (n := 24) (S := fun w' => True) (ds := []) (bs 24 0) (by kernel_rfl) rfl rfl trivial (fun hHeld => ?_); refine with_tabW spec_l01Diff.tab9 spec_l01Diff.bits9 (fun HT_ HW_ => ?_)
                generalize wc.drew = w10 at HO_5 HB hHeld ⊢
                refine pz 0 49 (bs 24 1) HT_ ?_
                refine pz 1 50 (bs 24 3) HT_ ?_
                refine pz 2 51 (bs 24 7) HT_ ?_
                refine pz 3 52 (bs 24 15) HT_ ?_
                refine pz 4 53 (bs 24 31) HT_ ?_
                refine uz 5 54 (bs 24 63) HT_ ?_
                refine uz 6 55 (bs 24 127) HT_ ?_
                refine uz 7 56 (bs 24 255) HT_ ?_
                refine uz 8 57 (bs 24 511) HT_ ?_
                refine uz 9 58 (bs 24 1023) HT_ ?_
                refine uz 10 59 (bs 24 2047) HT_ ?_
                refine uz 11 60 (bs 24 4095) HT_ ?_
                refine uz 12 61 (bs 24 8191) HT_ ?_
                refine uz 13 62 (bs 24 16383) HT_ ?_
                refine uz 14 63 (bs 24 32767) HT_ ?_
                refine uz 15 64 (bs 24 65535) HT_ ?_
                refine uz 16 65 (bs 24 131071) HT_ ?_
                refine uz 17 66 (bs 24 262143) HT_ ?_
                refine uz 18 67 (bs 24 524287) HT_ ?_
                refine uz 19 68 (bs 24 1048575) HT_ ?_
                refine uz 20 69 (bs 24 2097151) HT_ ?_
                refine uz 21 70 (bs 24 4194303) HT_ ?_
                refine pz 22 71 (bs 24 8388607) HT_ ?_
                refine pz 23 48 (bs 24 16777215) HT_ ?_
                refine done_ (done_of HT_.out (by kernel_rfl)) ?_
                try go_wp2
                go_meet
                case rel => exact ⟨_, (true), vE, H', ⟨by have := HK1.out; have := HJ4.out; omega⟩, ⟨by exact HO_5.out⟩, ⟨bW⟩⟩
              · rw [if_neg c9] at H
                have c9b0 : (x7_1 == (l1.length : Int)) = false := beq_eq_false_iff_ne.mpr c9
                have c9b1 : (x7_1 != (l1.length : Int)) = true := bne_iff_ne.mpr c9
                by_cases c11 : x6_1 < (l0.length : Int)
                · rw [if_pos c11] at H
                  have c11b0 : decide (x6_1 < (l0.length : Int)) = true := decide_eq_true c11
                  clear c11
                  by_cases c12 : 0 ≤ x6_1
                  · rw [if_pos c12] at H
                    have c12b0 : decide (0 ≤ x6_1) = true := decide_eq_true c12
                    clear c12
                    by_cases c13 : 0 ≤ x7_1
                    · rw [if_pos c13] at H
                      have c13b0 : decide (0 ≤ x7_1) = true := decide_eq_true c13
                      clear c13
                      by_cases c14 : x7_1 < (l1.length : Int)
                      · rw [if_pos c14] at H
                        have c14b0 : decide (x7_1 < (l1.length : Int)) = true := decide_eq_true c14
                        clear c14
                        have H' := Aside0.mk H
                        clear H
                        try go_wp2
                        have n0_ := Aside0.mk (Kd.R_drew HO_5.out)
                        have n1_ := Aside0.mk (below_drew1 HB.out)
                        clear HO_5
                        clear HB
                        have HO_5 := n0_
                        have HB := n1_
                        clear n0_ n1_
                        have p151 : 0 ≤ (x6_1 : Int) := odt
                        have q151 : x6_1 < (l0.length : Int) := odt
                        obtain ⟨ad151, e151, hx151_0, hx151_1⟩ := at_T84 HR0.out x6_1 p151 q151
                        have hw151_1 := hx151_1
                        have hw151_0 := hx151_0
                        cases e151
                        replace hx151_0 := (HB.out.cell (World.block_lt_of_cell? w _ hx151_0)).trans hx151_0
                        replace hx151_1 := (HB.out.cell (World.block_lt_of_cell? w _ hx151_1)).trans hx151_1
                        replace p151 := eq_true p151
                        replace q151 := eq_true q151
                        have p152 : 0 ≤ (x7_1 : Int) := odt
                        have q152 : x7_1 < (l1.length : Int) := odt
                        obtain ⟨ad152, e152, hx152_0, hx152_1⟩ := at_T84 HR1.out x7_1 p152 q152
                        have hw152_1 := hx152_1
                        have hw152_0 := hx152_0
                        cases e152
                        replace hx152_0 := (HB.out.cell (World.block_lt_of_cell? w _ hx152_0)).trans hx152_0
                        replace hx152_1 := (HB.out.cell (World.block_lt_of_cell? w _ hx152_1)).trans hx152_1
                        replace p152 := eq_true p152
                        replace q152 := eq_true q152
                        refine start_ (n := 24) (S := fun w' => w'.cell? (ad151.add ((x6_1).toNat * 2)) = some (.string ((rd_T84 l0 x6_1).f0)) ∧ w'.cell? ⟨(ad151.add ((x6_1).toNat * 2)).block, (ad151.add ((x6_1).toNat * 2)).off + 1, none⟩ = some (.int .i64 ((rd_T84 l0 x6_1).f1)) ∧ w'.cell? (ad152.add ((x7_1).toNat * 2)) = some (.string ((rd_T84 l1 x7_1).f0)) ∧ w'.cell? ⟨(ad152.add ((x7_1).toNat * 2)).block, (ad152.add ((x7_1).toNat * 2)).off + 1, none⟩ = some (.int .i64 ((rd_T84 l1 x7_1).f1))) (ds := []) (bs 24 0) (by kernel_rfl) rfl rfl ⟨((HB.out.cell (World.block_lt_of_cell? w _ hw151_0)).trans hw151_0), ((HB.out.cell (World.block_lt_of_cell? w _ hw151_1)).trans hw151_1), ((HB.out.cell (World.block_lt_of_cell? w _ hw152_0)).trans hw152_0), ((HB.out.cell (World.block_lt_of_cell? w _ hw152_1)).trans hw152_1)⟩ (fun hHeld => ?_); refine with_tabW spec_l01Diff.tab9 spec_l01Diff.bits9 (fun HT_ HW_ => ?_)
                        generalize wc.drew = w15 at HO_5 HB hx151_0 hx151_1 hx152_0 hx152_1 hHeld ⊢
                        refine pz 0 49 (bs 24 1) HT_ ?_
                        refine pz 1 50 (bs 24 3) HT_ ?_
                        refine pz 2 51 (bs 24 7) HT_ ?_
                        refine pz 3 52 (bs 24 15) HT_ ?_
                        refine pz 4 53 (bs 24 31) HT_ ?_
                        refine pz 5 54 (bs 24 63) HT_ ?_
                        refine pz 6 55 (bs 24 127) HT_ ?_
                        refine pz 7 56 (bs 24 255) HT_ ?_
                        refine pz 8 57 (bs 24 511) HT_ ?_
                        refine pz 9 58 (bs 24 1023) HT_ ?_
                        refine pz 10 59 (bs 24 2047) HT_ ?_
                        refine pz 11 60 (bs 24 4095) HT_ ?_
                        refine pz 12 61 (bs 24 8191) HT_ ?_
                        refine pz 13 62 (bs 24 16383) HT_ ?_
                        refine pz 15 64 (bs 24 49151) HT_ ?_
                        refine pz 16 65 (bs 24 114687) HT_ ?_
                        refine pz 17 66 (bs 24 245759) HT_ ?_
                        refine pz 18 67 (bs 24 507903) HT_ ?_
                        refine tz 14 63 (bs 24 524287) HT_ HW_ hHeld ?_
                        refine tz 19 68 (bs 24 1048575) HT_ HW_ hHeld ?_
                        refine pz 20 69 (bs 24 2097151) HT_ ?_
                        refine pz 21 70 (bs 24 4194303) HT_ ?_
                        refine pz 22 71 (bs 24 8388607) HT_ ?_
                        refine pz 23 48 (bs 24 16777215) HT_ ?_
                        refine done_ (done_of HT_.out (by kernel_rfl)) ?_
                        try go_wp2
                        go_meet
                        case rel => exact ⟨_, ((Op.bytesLess (((rd_T84 l0 x6_1).f0).toList) (((rd_T84 l1 x7_1).f0).toList))), vE, H', ⟨by have := HK1.out; have := HJ4.out; omega⟩, ⟨by exact HO_5.out⟩, ⟨bW⟩⟩
                      · rw [if_neg c14] at H
                        exact absurd H (by simp)
                    · rw [if_neg c13] at H
                      exact absurd H (by simp)
                  · rw [if_neg c12] at H
                    exact absurd H (by simp)
                · rw [if_neg c11] at H
                  have c11b0 : decide (x6_1 < (l0.length : Int)) = false := decide_eq_false c11
                  clear c11
                  have H' := Aside0.mk H
                  clear H
                  try go_wp2
                  have n0_ := Aside0.mk (Kd.R_drew HO_5.out)
                  have n1_ := Aside0.mk (below_drew1 HB.out)
                  clear HO_5
                  clear HB
                  have HO_5 := n0_
                  have HB := n1_
                  clear n0_ n1_
                  refine start_ (n := 24) (S := fun w' => True) (ds := []) (bs 24 0) (by kernel_rfl) rfl rfl trivial (fun hHeld => ?_); refine with_tabW spec_l01Diff.tab9 spec_l01Diff.bits9 (fun HT_ HW_ => ?_)
                  generalize wc.drew = w16 at HO_5 HB hHeld ⊢
                  refine pz 0 49 (bs 24 1) HT_ ?_
                  refine pz 1 50 (bs 24 3) HT_ ?_
                  refine pz 2 51 (bs 24 7) HT_ ?_
                  refine pz 3 52 (bs 24 15) HT_ ?_
                  refine pz 4 53 (bs 24 31) HT_ ?_
                  refine pz 5 54 (bs 24 63) HT_ ?_
                  refine pz 6 55 (bs 24 127) HT_ ?_
                  refine pz 7 56 (bs 24 255) HT_ ?_
                  refine pz 8 57 (bs 24 511) HT_ ?_
                  refine pz 9 58 (bs 24 1023) HT_ ?_
                  refine uz 10 59 (bs 24 2047) HT_ ?_
                  refine uz 11 60 (bs 24 4095) HT_ ?_
                  refine uz 12 61 (bs 24 8191) HT_ ?_
                  refine uz 13 62 (bs 24 16383) HT_ ?_
                  refine uz 14 63 (bs 24 32767) HT_ ?_
                  refine uz 15 64 (bs 24 65535) HT_ ?_
                  refine uz 16 65 (bs 24 131071) HT_ ?_
                  refine uz 17 66 (bs 24 262143) HT_ ?_
                  refine uz 18 67 (bs 24 524287) HT_ ?_
                  refine uz 19 68 (bs 24 1048575) HT_ ?_
                  refine uz 20 69 (bs 24 2097151) HT_ ?_
                  refine pz 21 70 (bs 24 4194303) HT_ ?_
                  refine pz 22 71 (bs 24 8388607) HT_ ?_
                  refine pz 23 48 (bs 24 16777215) HT_ ?_
                  refine done_ (done_of HT_.out (by kernel_rfl)) ?_
                  try go_wp2
                  go_meet
                  case rel => exact ⟨_, (false), vE, H', ⟨by have := HK1.out; have := HJ4.out; omega⟩, ⟨by exact HO_5.out⟩, ⟨bW⟩⟩
            case rest =>
              clear HC8
              obtain ⟨kq, x48_7, rfl, HA, HJ7, HO_5, HB⟩ := hcut
              cases kq with
              | zero => exact absurd HA.out (by simp [spec_l01Diff.j2])
              | succ kj7 =>
                have H := HA.out
                clear HA
                simp only [spec_l01Diff.j2] at H
                by_cases c17 : x48_7 = true
                · subst c17
                  have H1 : (if 0 ≤ x6_1 then (if x6_1 < (l0.length : Int) then (if x5_1.length < 4398046511104 then (spec_l01Diff.l0 kj7 l0 l1 (x5_1 ++ [(⟨(rd_T84 l0 x6_1).f0, 0, true⟩ : S68)]) (wrap64 (x6_1 + 1)) x7_1) else (none)) else (none)) else (none)) = some r := by rw [if_pos rfl] at H; exact H
                  clear H
                  have H := H1
                  clear H1
                  by_cases c18 : 0 ≤ x6_1
                  · rw [if_pos c18] at H
                    have c18b0 : decide (0 ≤ x6_1) = true := decide_eq_true c18
                    clear c18
                    by_cases c19 : x6_1 < (l0.length : Int)
                    · rw [if_pos c19] at H
                      have c19b0 : decide (x6_1 < (l0.length : Int)) = true := decide_eq_true c19
                      clear c19
                      by_cases c20 : x5_1.length < 4398046511104
                      · rw [if_pos c20] at H
                        have LMc20 := Aside0.mk c20
                        clear c20
                        obtain ⟨y154, hy154⟩ : ∃ y_ : List (S68), y_ = (x5_1 ++ [(⟨(rd_T84 l0 x6_1).f0, 0, true⟩ : S68)]) := ⟨_, rfl⟩
                        replace H : (spec_l01Diff.l0 kj7 l0 l1 y154 (wrap64 (x6_1 + 1)) x7_1) = some r := by (rw [hy154]; with_reducible exact H)
                        have Ny154 := Aside0.mk hy154
                        clear hy154
                        have H' := Aside0.mk H
                        clear H
                        have p153 : 0 ≤ (x6_1 : Int) := odt
                        have q153 : x6_1 < (l0.length : Int) := odt
                        obtain ⟨ad153, e153, hx153_0, hx153_1⟩ := at_T84 HR0.out x6_1 p153 q153
                        cases e153
                        replace hx153_0 := (HB.out.cell (World.block_lt_of_cell? w _ hx153_0)).trans hx153_0
                        replace hx153_1 := (HB.out.cell (World.block_lt_of_cell? w _ hx153_1)).trans hx153_1
                        replace p153 := eq_true p153
                        replace q153 := eq_true q153
                        go_wp2_with (((with_reducible refine gate_builtin (b := .append) (xs := #[.tmp 72, .tmp 79]) rfl ?_); (try (refine gate_guard (by rfl) ?_; dsimp only)); at_builtin; refine Kd.R_append k68 (w0 := w) w.heap.size rfl (.tmp 72) (.tmp 79) 30 68 (.agg #[(.string ⟨#[]⟩), (.int .i64 0), (.bool false)]) 32 rfl Tryz.underlying30 info68 rfl (by decide) (by omega) u5 x5_1 (⟨(rd_T84 l0 x6_1).f0, 0, true⟩ : S68) [.string ((rd_T84 l0 x6_1).f0), .int .i64 0, .bool true] (fun _ => True) (fun _ => False) rfl rfl ?aP (fun _ hk => hk.elim) ?aF ?aO ?aB ?aS ?aL ?_; (case aP => exact k68_mkM _ _ _ (⟨(rd_T84 l0 x6_1).f0, 0, true⟩ : S68)); (case aB => exact bW); (case aF => exact (fun _ _ => trivial)); (case aO => exact (pR HO_5)); (case aS => exact (below_size (w := w) bW)); (case aL => have := LMc20.out; omega); intro v155 w21 ho hb hg hat; rw [← Ny154.out] at ho; have n0_ := Aside0.mk (hb); have n1_ := Aside0.mk (ho); clear HB; clear HO_5; have HB := n0_; have HO156 := n1_; clear n0_ n1_; clear ho hb hg hat))
                        go_roundg kj7
                        case measure => have := HK1.out; have := HJ4.out; have := HJ7.out; omega
                        case rel => exact ⟨(y154), (wrap64 (x6_1 + 1)), (x7_1), vE, vE, H', ⟨by have := HK1.out; have := HJ4.out; have := HJ7.out; omega⟩, ⟨by exact HO156.out⟩, ⟨bW⟩⟩
                      · rw [if_neg c20] at H
                        exact absurd H (by simp)
                    · rw [if_neg c19] at H
                      exact absurd H (by simp)
                  · rw [if_neg c18] at H
                    exact absurd H (by simp)
                · replace c17 := Bool.eq_false_iff.mpr c17
                  subst c17
                  have H1 : (if x6_1 = (l0.length : Int) then (spec_l01Diff.j3 kj7 l0 l1 x5_1 x6_1 x7_1 true) else (if 0 ≤ x7_1 then (if x7_1 < (l1.length : Int) then (if 0 ≤ x6_1 then (if x6_1 < (l0.length : Int) then (spec_l01Diff.j3 kj7 l0 l1 x5_1 x6_1 x7_1 (Op.bytesLess (((rd_T84 l1 x7_1).f0).toList) (((rd_T84 l0 x6_1).f0).toList))) else (none)) else (none)) else (none)) else (none))) = some r := by rw [if_neg (show ¬ (false = true) by decide)] at H; exact H
                  clear H
                  have H := H1
                  clear H1
                  have HC22 := Aside0.mk H
                  clear H
                  go_upto_region 12 with (fail)
                  go_cut [83] (fun v83 wc => ∃ (kq : Nat) (x83_21 : Bool), v83 = .bool x83_21 ∧ Aside0 (spec_l01Diff.j3 kq l0 l1 x5_1 x6_1 x7_1 x83_21 = some r) ∧ Aside0 (kq ≤ kj7) ∧ Aside0 (Kd.R k68 68 wc w.heap.size (fun _ => True) u5 x5_1) ∧ Aside0 (Below w.heap.size w wc))
                  case first =>
                    have H := HC22.out
                    clear HC22
                    by_cases c23 : x6_1 = (l0.length : Int)
                    · rw [if_pos c23] at H
                      have c23b0 : (x6_1 == (l0.length : Int)) = true := beq_iff_eq.mpr c23
                      have c23b1 : (x6_1 != (l0.length : Int)) = false := bne_eq_false_iff_eq.mpr c23
                      clear c23
                      have H' := Aside0.mk H
                      clear H
                      try go_wp2
                      have n0_ := Aside0.mk (Kd.R_drew HO_5.out)
                      have n1_ := Aside0.mk (below_drew1 HB.out)
                      clear HO_5
                      clear HB
                      have HO_5 := n0_
                      have HB := n1_
                      clear n0_ n1_
                      refine start_ (n := 18) (S := fun w' => True) (ds := []) (bs 18 0) (by kernel_rfl) rfl rfl trivial (fun hHeld => ?_); refine with_tabW spec_l01Diff.tab12 spec_l01Diff.bits12 (fun HT_ HW_ => ?_)
                      generalize wc.drew = w24 at HO_5 HB hHeld ⊢
                      refine pz 0 84 (bs 18 1) HT_ ?_
                      refine pz 1 85 (bs 18 3) HT_ ?_
                      refine pz 2 86 (bs 18 7) HT_ ?_
                      refine pz 3 87 (bs 18 15) HT_ ?_
                      refine pz 4 88 (bs 18 31) HT_ ?_
                      refine uz 5 89 (bs 18 63) HT_ ?_
                      refine uz 6 90 (bs 18 127) HT_ ?_
                      refine uz 7 91 (bs 18 255) HT_ ?_
                      refine uz 8 92 (bs 18 511) HT_ ?_
                      refine uz 9 93 (bs 18 1023) HT_ ?_
                      refine uz 10 94 (bs 18 2047) HT_ ?_
                      refine uz 11 95 (bs 18 4095) HT_ ?_
                      refine uz 12 96 (bs 18 8191) HT_ ?_
                      refine uz 13 97 (bs 18 16383) HT_ ?_
                      refine uz 14 98 (bs 18 32767) HT_ ?_
                      refine uz 15 99 (bs 18 65535) HT_ ?_
                      refine pz 16 100 (bs 18 131071) HT_ ?_
                      refine pz 17 83 (bs 18 262143) HT_ ?_
                      refine done_ (done_of HT_.out (by kernel_rfl)) ?_
                      try go_wp2
                      go_meet
                      case rel => exact ⟨_, (true), vE, H', ⟨by have := HK1.out; have := HJ4.out; have := HJ7.out; omega⟩, ⟨by exact HO_5.out⟩, ⟨bW⟩⟩
                    · rw [if_neg c23] at H
                      have c23b0 : (x6_1 == (l0.length : Int)) = false := beq_eq_false_iff_ne.mpr c23
                      have c23b1 : (x6_1 != (l0.length : Int)) = true := bne_iff_ne.mpr c23
                      by_cases c25 : 0 ≤ x7_1
                      · rw [if_pos c25] at H
                        have c25b0 : decide (0 ≤ x7_1) = true := decide_eq_true c25
                        clear c25
                        by_cases c26 : x7_1 < (l1.length : Int)
                        · rw [if_pos c26] at H
                          have c26b0 : decide (x7_1 < (l1.length : Int)) = true := decide_eq_true c26
                          clear c26
                          by_cases c27 : 0 ≤ x6_1
                          · rw [if_pos c27] at H
                            have c27b0 : decide (0 ≤ x6_1) = true := decide_eq_true c27
                            clear c27
                            by_cases c28 : x6_1 < (l0.length : Int)
                            · rw [if_pos c28] at H
                              have c28b0 : decide (x6_1 < (l0.length : Int)) = true := decide_eq_true c28
                              clear c28
                              have H' := Aside0.mk H
                              clear H
                              try go_wp2
                              have n0_ := Aside0.mk (Kd.R_drew HO_5.out)
                              have n1_ := Aside0.mk (below_drew1 HB.out)
                              clear HO_5
                              clear HB
                              have HO_5 := n0_
                              have HB := n1_
                              clear n0_ n1_
                              have p157 : 0 ≤ (x7_1 : Int) := odt
                              have q157 : x7_1 < (l1.length : Int) := odt
                              obtain ⟨ad157, e157, hx157_0, hx157_1⟩ := at_T84 HR1.out x7_1 p157 q157
                              have hw157_1 := hx157_1
                              have hw157_0 := hx157_0
                              cases e157
                              replace hx157_0 := (HB.out.cell (World.block_lt_of_cell? w _ hx157_0)).trans hx157_0
                              replace hx157_1 := (HB.out.cell (World.block_lt_of_cell? w _ hx157_1)).trans hx157_1
                              replace p157 := eq_true p157
                              replace q157 := eq_true q157
                              have p158 : 0 ≤ (x6_1 : Int) := odt
                              have q158 : x6_1 < (l0.length : Int) := odt
                              obtain ⟨ad158, e158, hx158_0, hx158_1⟩ := at_T84 HR0.out x6_1 p158 q158
                              have hw158_1 := hx158_1
                              have hw158_0 := hx158_0
                              cases e158
                              replace hx158_0 := (HB.out.cell (World.block_lt_of_cell? w _ hx158_0)).trans hx158_0
                              replace hx158_1 := (HB.out.cell (World.block_lt_of_cell? w _ hx158_1)).trans hx158_1
                              replace p158 := eq_true p158
                              replace q158 := eq_true q158
                              refine start_ (n := 18) (S := fun w' => w'.cell? (ad157.add ((x7_1).toNat * 2)) = some (.string ((rd_T84 l1 x7_1).f0)) ∧ w'.cell? ⟨(ad157.add ((x7_1).toNat * 2)).block, (ad157.add ((x7_1).toNat * 2)).off + 1, none⟩ = some (.int .i64 ((rd_T84 l1 x7_1).f1)) ∧ w'.cell? (ad158.add ((x6_1).toNat * 2)) = some (.string ((rd_T84 l0 x6_1).f0)) ∧ w'.cell? ⟨(ad158.add ((x6_1).toNat * 2)).block, (ad158.add ((x6_1).toNat * 2)).off + 1, none⟩ = some (.int .i64 ((rd_T84 l0 x6_1).f1))) (ds := []) (bs 18 0) (by kernel_rfl) rfl rfl ⟨((HB.out.cell (World.block_lt_of_cell? w _ hw157_0)).trans hw157_0), ((HB.out.cell (World.block_lt_of_cell? w _ hw157_1)).trans hw157_1), ((HB.out.cell (World.block_lt_of_cell? w _ hw158_0)).trans hw158_0), ((HB.out.cell (World.block_lt_of_cell? w _ hw158_1)).trans hw158_1)⟩ (fun hHeld => ?_); refine with_tabW spec_l01Diff.tab12 spec_l01Diff.bits12 (fun HT_ HW_ => ?_)
                              generalize wc.drew = w29 at HO_5 HB hx157_0 hx157_1 hx158_0 hx158_1 hHeld ⊢
                              refine pz 0 84 (bs 18 1) HT_ ?_
                              refine pz 1 85 (bs 18 3) HT_ ?_
                              refine pz 2 86 (bs 18 7) HT_ ?_
                              refine pz 3 87 (bs 18 15) HT_ ?_
                              refine pz 4 88 (bs 18 31) HT_ ?_
                              refine pz 5 89 (bs 18 63) HT_ ?_
                              refine pz 6 90 (bs 18 127) HT_ ?_
                              refine pz 7 91 (bs 18 255) HT_ ?_
                              refine pz 8 92 (bs 18 511) HT_ ?_
                              refine pz 10 94 (bs 18 1535) HT_ ?_
                              refine pz 11 95 (bs 18 3583) HT_ ?_
                              refine pz 12 96 (bs 18 7679) HT_ ?_
                              refine pz 13 97 (bs 18 15871) HT_ ?_
                              refine tz 9 93 (bs 18 16383) HT_ HW_ hHeld ?_
                              refine tz 14 98 (bs 18 32767) HT_ HW_ hHeld ?_
                              refine pz 15 99 (bs 18 65535) HT_ ?_
                              refine pz 16 100 (bs 18 131071) HT_ ?_
                              refine pz 17 83 (bs 18 262143) HT_ ?_
                              refine done_ (done_of HT_.out (by kernel_rfl)) ?_
                              try go_wp2
                              go_meet
                              case rel => exact ⟨_, ((Op.bytesLess (((rd_T84 l1 x7_1).f0).toList) (((rd_T84 l0 x6_1).f0).toList))), vE, H', ⟨by have := HK1.out; have := HJ4.out; have := HJ7.out; omega⟩, ⟨by exact HO_5.out⟩, ⟨bW⟩⟩
                            · rw [if_neg c28] at H
                              exact absurd H (by simp)
                          · rw [if_neg c27] at H
                            exact absurd H (by simp)
                        · rw [if_neg c26] at H
                          exact absurd H (by simp)
                      · rw [if_neg c25] at H
                        exact absurd H (by simp)
                  case rest =>
                    clear HC22
                    obtain ⟨kq, x83_21, rfl, HA, HJ21, HO_5, HB⟩ := hcut
                    cases kq with
                    | zero => exact absurd HA.out (by simp [spec_l01Diff.j3])
                    | succ kj21 =>
                      have H := HA.out
                      clear HA
                      simp only [spec_l01Diff.j3] at H
                      by_cases c30 : x83_21 = true
                      · subst c30
                        have H1 : (if 0 ≤ x7_1 then (if x7_1 < (l1.length : Int) then (if x5_1.length < 4398046511104 then (spec_l01Diff.l0 kj21 l0 l1 (x5_1 ++ [(⟨(rd_T84 l1 x7_1).f0, (rd_T84 l1 x7_1).f1, false⟩ : S68)]) x6_1 (wrap64 (x7_1 + 1))) else (none)) else (none)) else (none)) = some r := by rw [if_pos rfl] at H; exact H
                        clear H
                        have H := H1
                        clear H1
                        by_cases c31 : 0 ≤ x7_1
                        · rw [if_pos c31] at H
                          have c31b0 : decide (0 ≤ x7_1) = true := decide_eq_true c31
                          clear c31
                          by_cases c32 : x7_1 < (l1.length : Int)
                          · rw [if_pos c32] at H
                            have c32b0 : decide (x7_1 < (l1.length : Int)) = true := decide_eq_true c32
                            clear c32
                            by_cases c33 : x5_1.length < 4398046511104
                            · rw [if_pos c33] at H
                              have LMc33 := Aside0.mk c33
                              clear c33
                              obtain ⟨y161, hy161⟩ : ∃ y_ : List (S68), y_ = (x5_1 ++ [(⟨(rd_T84 l1 x7_1).f0, (rd_T84 l1 x7_1).f1, false⟩ : S68)]) := ⟨_, rfl⟩
                              replace H : (spec_l01Diff.l0 kj21 l0 l1 y161 x6_1 (wrap64 (x7_1 + 1))) = some r := by (rw [hy161]; with_reducible exact H)
                              have Ny161 := Aside0.mk hy161
                              clear hy161
                              have H' := Aside0.mk H
                              clear H
                              try go_wp2
                              have n0_ := Aside0.mk (Kd.R_drew HO_5.out)
                              have n1_ := Aside0.mk (below_drew1 HB.out)
                              clear HO_5
                              clear HB
                              have HO_5 := n0_
                              have HB := n1_
                              clear n0_ n1_
                              have p159 : 0 ≤ (x7_1 : Int) := odt
                              have q159 : x7_1 < (l1.length : Int) := odt
                              obtain ⟨ad159, e159, hx159_0, hx159_1⟩ := at_T84 HR1.out x7_1 p159 q159
                              have hw159_1 := hx159_1
                              have hw159_0 := hx159_0
                              cases e159
                              replace hx159_0 := (HB.out.cell (World.block_lt_of_cell? w _ hx159_0)).trans hx159_0
                              replace hx159_1 := (HB.out.cell (World.block_lt_of_cell? w _ hx159_1)).trans hx159_1
                              replace p159 := eq_true p159
                              replace q159 := eq_true q159
                              have p160 : 0 ≤ (x7_1 : Int) := odt
                              have q160 : x7_1 < (l1.length : Int) := odt
                              obtain ⟨ad160, e160, hx160_0, hx160_1⟩ := at_T84 HR1.out x7_1 p160 q160
                              have hw160_1 := hx160_1
                              have hw160_0 := hx160_0
                              obtain rfl : ad159 = ad160 := (by injection e160)
                              replace hx160_0 := (HB.out.cell (World.block_lt_of_cell? w _ hx160_0)).trans hx160_0
                              replace hx160_1 := (HB.out.cell (World.block_lt_of_cell? w _ hx160_1)).trans hx160_1
                              replace p160 := eq_true p160
                              replace q160 := eq_true q160
                              refine start_ (n := 15) (S := fun w' => w'.cell? (ad159.add ((x7_1).toNat * 2)) = some (.string ((rd_T84 l1 x7_1).f0)) ∧ w'.cell? ⟨(ad159.add ((x7_1).toNat * 2)).block, (ad159.add ((x7_1).toNat * 2)).off + 1, none⟩ = some (.int .i64 ((rd_T84 l1 x7_1).f1)) ∧ w'.cell? (ad159.add ((x7_1).toNat * 2)) = some (.string ((rd_T84 l1 x7_1).f0)) ∧ w'.cell? ⟨(ad159.add ((x7_1).toNat * 2)).block, (ad159.add ((x7_1).toNat * 2)).off + 1, none⟩ = some (.int .i64 ((rd_T84 l1 x7_1).f1))) (ds := []) (bs 15 0) (by kernel_rfl) rfl rfl ⟨((HB.out.cell (World.block_lt_of_cell? w _ hw159_0)).trans hw159_0), ((HB.out.cell (World.block_lt_of_cell? w _ hw159_1)).trans hw159_1), ((HB.out.cell (World.block_lt_of_cell? w _ hw160_0)).trans hw160_0), ((HB.out.cell (World.block_lt_of_cell? w _ hw160_1)).trans hw160_1)⟩ (fun hHeld => ?_); refine with_tabW spec_l01Diff.tab13 spec_l01Diff.bits13 (fun HT_ HW_ => ?_)
                              generalize wc.drew = w34 at HO_5 HB hx159_0 hx159_1 hx160_0 hx160_1 hHeld ⊢
                              refine pz 0 101 (bs 15 1) HT_ ?_
                              refine pz 1 102 (bs 15 3) HT_ ?_
                              refine pz 2 103 (bs 15 7) HT_ ?_
                              refine pz 3 104 (bs 15 15) HT_ ?_
                              refine pz 4 105 (bs 15 31) HT_ ?_
                              refine pz 6 107 (bs 15 95) HT_ ?_
                              refine pz 7 108 (bs 15 223) HT_ ?_
                              refine pz 8 109 (bs 15 479) HT_ ?_
                              refine pz 9 110 (bs 15 991) HT_ ?_
                              refine tz 5 106 (bs 15 1023) HT_ HW_ hHeld ?_
                              refine tz 10 111 (bs 15 2047) HT_ HW_ hHeld ?_
                              refine pz 11 112 (bs 15 4095) HT_ ?_
                              refine one_ (i := 12) (N := some 113) (bs 15 8191) rfl rfl (one_of HT_.out (by kernel_rfl)) (by decide) (fun K hK => ?_)
                              refine value_ (w1 := ?_) (v := ?_) (by rfl) rfl ?_ ?_
                              rotate_left 2
                              · go_simp
                                constructor
                                · rfl
                                · rfl
                              refine hK.out _ _ ⟨(World.cell?_alloc_lt _ _ _ (World.block_lt_of_cell? _ _ (((HB.out.cell (World.block_lt_of_cell? w _ hw159_0)).trans hw159_0)))).trans (((HB.out.cell (World.block_lt_of_cell? w _ hw159_0)).trans hw159_0)), (World.cell?_alloc_lt _ _ _ (World.block_lt_of_cell? _ _ (((HB.out.cell (World.block_lt_of_cell? w _ hw159_1)).trans hw159_1)))).trans (((HB.out.cell (World.block_lt_of_cell? w _ hw159_1)).trans hw159_1)), (World.cell?_alloc_lt _ _ _ (World.block_lt_of_cell? _ _ (((HB.out.cell (World.block_lt_of_cell? w _ hw160_0)).trans hw160_0)))).trans (((HB.out.cell (World.block_lt_of_cell? w _ hw160_0)).trans hw160_0)), (World.cell?_alloc_lt _ _ _ (World.block_lt_of_cell? _ _ (((HB.out.cell (World.block_lt_of_cell? w _ hw160_1)).trans hw160_1)))).trans (((HB.out.cell (World.block_lt_of_cell? w _ hw160_1)).trans hw160_1))⟩ (fun hHeld => ?_)
                              clear hK K
                              refine norm_ (a' := ?_) ?_ ?_
                              rotate_left
                              · show Act.put _ (some 113) _ = _
                                simp only [Act.put, List.setIfInBounds_toArray, List.set_cons_zero, List.set_cons_succ, i64_w, i32_w]
                                rfl
                              refine one_ (i := 13) (N := some 114) (bs 15 16383) rfl rfl (one_of HT_.out (by kernel_rfl)) (by decide) (fun K hK => ?_)
                              refine Kd.R_append_step k68 (w0 := w) w.heap.size (by rfl) (.tmp 101) (.tmp 113) 30 68 (.agg #[(.string ⟨#[]⟩), (.int .i64 0), (.bool false)]) 32 rfl Tryz.underlying30 info68 rfl (by decide) (by omega) u5 x5_1 (⟨(rd_T84 l1 x7_1).f0, (rd_T84 l1 x7_1).f1, false⟩ : S68) [.string ((rd_T84 l1 x7_1).f0), .int .i64 ((rd_T84 l1 x7_1).f1), .bool false] (fun _ => True) (fun _ => False) rfl rfl ?aP (fun _ hk => hk.elim) ?aF ?aO ?aB ?aS ?aL ?_
                              (case aP => exact k68_mkM _ _ _ (⟨(rd_T84 l1 x7_1).f0, (rd_T84 l1 x7_1).f1, false⟩ : S68))
                              (case aB => exact bW)
                              (case aF => exact (fun _ _ => trivial))
                              (case aO => exact (pR HO_5))
                              (case aS => exact (below_size (w := w) bW))
                              (case aL => have := LMc33.out; omega)
                              intro v162 w35 ho hb hg hat
                              rw [← Ny161.out] at ho
                              have n0_ := Aside0.mk (hb)
                              have n1_ := Aside0.mk (ho)
                              clear HB
                              clear HO_5
                              have HB := n0_
                              have HO163 := n1_
                              clear n0_ n1_
                              clear ho hb hg hat
                              refine hK.out _ _ ⟨((HB.out.cell (World.block_lt_of_cell? w _ hw159_0)).trans hw159_0), ((HB.out.cell (World.block_lt_of_cell? w _ hw159_1)).trans hw159_1), ((HB.out.cell (World.block_lt_of_cell? w _ hw160_0)).trans hw160_0), ((HB.out.cell (World.block_lt_of_cell? w _ hw160_1)).trans hw160_1)⟩ (fun hHeld => ?_)
                              clear hK K
                              refine norm_ (a' := ?_) ?_ ?_
                              rotate_left
                              · show Act.put _ (some 114) _ = _
                                simp only [Act.put, List.setIfInBounds_toArray, List.set_cons_zero, List.set_cons_succ, i64_w, i32_w]
                                rfl
                              refine pz 14 5 (bs 15 32767) HT_ ?_
                              refine done_ (done_of HT_.out (by kernel_rfl)) ?_
                              try go_wp2
                              go_roundg kj21
                              case measure => have := HK1.out; have := HJ4.out; have := HJ7.out; have := HJ21.out; omega
                              case rel => exact ⟨(y161), (x6_1), (wrap64 (x7_1 + 1)), vE, vE, H', ⟨by have := HK1.out; have := HJ4.out; have := HJ7.out; have := HJ21.out; omega⟩, ⟨by exact HO163.out⟩, ⟨bW⟩⟩
                            · rw [if_neg c33] at H
                              exact absurd H (by simp)
                          · rw [if_neg c32] at H
                            exact absurd H (by simp)
                        · rw [if_neg c31] at H
                          exact absurd H (by simp)
                      · replace c30 := Bool.eq_false_iff.mpr c30
                        subst c30
                        have H1 : (if 0 ≤ x6_1 then (if x6_1 < (l0.length : Int) then (if 0 ≤ x7_1 then (if x7_1 < (l1.length : Int) then (if ((rd_T84 l0 x6_1).f1) = ((rd_T84 l1 x7_1).f1) then (spec_l01Diff.l0 kj21 l0 l1 x5_1 (wrap64 (x6_1 + 1)) (wrap64 (x7_1 + 1))) else (if x5_1.length < 4398046511104 then (spec_l01Diff.l0 kj21 l0 l1 (x5_1 ++ [(⟨(rd_T84 l1 x7_1).f0, (rd_T84 l1 x7_1).f1, false⟩ : S68)]) (wrap64 (x6_1 + 1)) (wrap64 (x7_1 + 1))) else (none))) else (none)) else (none)) else (none)) else (none)) = some r := by rw [if_neg (show ¬ (false = true) by decide)] at H; exact H
                        clear H
                        have H := H1
                        clear H1
                        by_cases c36 : 0 ≤ x6_1
                        · rw [if_pos c36] at H
                          have c36b0 : decide (0 ≤ x6_1) = true := decide_eq_true c36
                          clear c36
                          by_cases c37 : x6_1 < (l0.length : Int)
                          · rw [if_pos c37] at H
                            have c37b0 : decide (x6_1 < (l0.length : Int)) = true := decide_eq_true c37
                            clear c37
                            by_cases c38 : 0 ≤ x7_1
                            · rw [if_pos c38] at H
                              have c38b0 : decide (0 ≤ x7_1) = true := decide_eq_true c38
                              clear c38
                              by_cases c39 : x7_1 < (l1.length : Int)
                              · rw [if_pos c39] at H
                                have c39b0 : decide (x7_1 < (l1.length : Int)) = true := decide_eq_true c39
                                clear c39
                                by_cases c40 : ((rd_T84 l0 x6_1).f1) = ((rd_T84 l1 x7_1).f1)
                                · rw [if_pos c40] at H
                                  have c40b0 : (((rd_T84 l0 x6_1).f1) == ((rd_T84 l1 x7_1).f1)) = true := beq_iff_eq.mpr c40
                                  have c40b1 : (((rd_T84 l0 x6_1).f1) != ((rd_T84 l1 x7_1).f1)) = false := bne_eq_false_iff_eq.mpr c40
                                  clear c40
                                  have H' := Aside0.mk H
                                  clear H
                                  try go_wp2
                                  have n0_ := Aside0.mk (Kd.R_drew HO_5.out)
                                  have n1_ := Aside0.mk (below_drew1 HB.out)
                                  clear HO_5
                                  clear HB
                                  have HO_5 := n0_
                                  have HB := n1_
                                  clear n0_ n1_
                                  have p164 : 0 ≤ (x6_1 : Int) := odt
                                  have q164 : x6_1 < (l0.length : Int) := odt
                                  obtain ⟨ad164, e164, hx164_0, hx164_1⟩ := at_T84 HR0.out x6_1 p164 q164
                                  have hw164_1 := hx164_1
                                  have hw164_0 := hx164_0
                                  cases e164
                                  replace hx164_0 := (HB.out.cell (World.block_lt_of_cell? w _ hx164_0)).trans hx164_0
                                  replace hx164_1 := (HB.out.cell (World.block_lt_of_cell? w _ hx164_1)).trans hx164_1
                                  replace p164 := eq_true p164
                                  replace q164 := eq_true q164
                                  have p165 : 0 ≤ (x7_1 : Int) := odt
                                  have q165 : x7_1 < (l1.length : Int) := odt
                                  obtain ⟨ad165, e165, hx165_0, hx165_1⟩ := at_T84 HR1.out x7_1 p165 q165
                                  have hw165_1 := hx165_1
                                  have hw165_0 := hx165_0
                                  cases e165
                                  replace hx165_0 := (HB.out.cell (World.block_lt_of_cell? w _ hx165_0)).trans hx165_0
                                  replace hx165_1 := (HB.out.cell (World.block_lt_of_cell? w _ hx165_1)).trans hx165_1
                                  replace p165 := eq_true p165
                                  replace q165 := eq_true q165
                                  refine start_ (n := 11) (S := fun w' => w'.cell? (ad164.add ((x6_1).toNat * 2)) = some (.string ((rd_T84 l0 x6_1).f0)) ∧ w'.cell? ⟨(ad164.add ((x6_1).toNat * 2)).block, (ad164.add ((x6_1).toNat * 2)).off + 1, none⟩ = some (.int .i64 ((rd_T84 l0 x6_1).f1)) ∧ w'.cell? (ad165.add ((x7_1).toNat * 2)) = some (.string ((rd_T84 l1 x7_1).f0)) ∧ w'.cell? ⟨(ad165.add ((x7_1).toNat * 2)).block, (ad165.add ((x7_1).toNat * 2)).off + 1, none⟩ = some (.int .i64 ((rd_T84 l1 x7_1).f1))) (ds := []) (bs 11 0) (by kernel_rfl) rfl rfl ⟨((HB.out.cell (World.block_lt_of_cell? w _ hw164_0)).trans hw164_0), ((HB.out.cell (World.block_lt_of_cell? w _ hw164_1)).trans hw164_1), ((HB.out.cell (World.block_lt_of_cell? w _ hw165_0)).trans hw165_0), ((HB.out.cell (World.block_lt_of_cell? w _ hw165_1)).trans hw165_1)⟩ (fun hHeld => ?_); refine with_tabW spec_l01Diff.tab5 spec_l01Diff.bits5 (fun HT_ HW_ => ?_)
                                  generalize wc.drew = w41 at HO_5 HB hx164_0 hx164_1 hx165_0 hx165_1 hHeld ⊢
                                  refine pz 0 19 (bs 11 1) HT_ ?_
                                  refine pz 1 20 (bs 11 3) HT_ ?_
                                  refine pz 2 21 (bs 11 7) HT_ ?_
                                  refine pz 3 22 (bs 11 15) HT_ ?_
                                  refine pz 5 24 (bs 11 47) HT_ ?_
                                  refine pz 6 25 (bs 11 111) HT_ ?_
                                  refine pz 7 26 (bs 11 239) HT_ ?_
                                  refine pz 8 27 (bs 11 495) HT_ ?_
                                  refine tz 4 23 (bs 11 511) HT_ HW_ hHeld ?_
                                  refine tz 9 28 (bs 11 1023) HT_ HW_ hHeld ?_
                                  refine pz 10 29 (bs 11 2047) HT_ ?_
                                  refine done_ (done_of HT_.out (by kernel_rfl)) ?_
                                  try go_wp2
                                  go_roundg kj21
                                  case measure => have := HK1.out; have := HJ4.out; have := HJ7.out; have := HJ21.out; omega
                                  case rel => exact ⟨(x5_1), (wrap64 (x6_1 + 1)), (wrap64 (x7_1 + 1)), vE, vE, H', ⟨by have := HK1.out; have := HJ4.out; have := HJ7.out; have := HJ21.out; omega⟩, ⟨by exact HO_5.out⟩, ⟨bW⟩⟩
                                · rw [if_neg c40] at H
                                  have c40b0 : (((rd_T84 l0 x6_1).f1) == ((rd_T84 l1 x7_1).f1)) = false := beq_eq_false_iff_ne.mpr c40
                                  have c40b1 : (((rd_T84 l0 x6_1).f1) != ((rd_T84 l1 x7_1).f1)) = true := bne_iff_ne.mpr c40
                                  by_cases c42 : x5_1.length < 4398046511104
                                  · rw [if_pos c42] at H
                                    have LMc42 := Aside0.mk c42
                                    clear c42
                                    obtain ⟨y168, hy168⟩ : ∃ y_ : List (S68), y_ = (x5_1 ++ [(⟨(rd_T84 l1 x7_1).f0, (rd_T84 l1 x7_1).f1, false⟩ : S68)]) := ⟨_, rfl⟩
                                    replace H : (spec_l01Diff.l0 kj21 l0 l1 y168 (wrap64 (x6_1 + 1)) (wrap64 (x7_1 + 1))) = some r := by (rw [hy168]; with_reducible exact H)
                                    have Ny168 := Aside0.mk hy168
                                    clear hy168
                                    have H' := Aside0.mk H
                                    clear H
                                    try go_wp2
                                    have n0_ := Aside0.mk (Kd.R_drew HO_5.out)
                                    have n1_ := Aside0.mk (below_drew1 HB.out)
                                    clear HO_5
                                    clear HB
                                    have HO_5 := n0_
                                    have HB := n1_
                                    clear n0_ n1_
                                    have p164 : 0 ≤ (x6_1 : Int) := odt
                                    have q164 : x6_1 < (l0.length : Int) := odt
                                    obtain ⟨ad164, e164, hx164_0, hx164_1⟩ := at_T84 HR0.out x6_1 p164 q164
                                    have hw164_1 := hx164_1
                                    have hw164_0 := hx164_0
                                    cases e164
                                    replace hx164_0 := (HB.out.cell (World.block_lt_of_cell? w _ hx164_0)).trans hx164_0
                                    replace hx164_1 := (HB.out.cell (World.block_lt_of_cell? w _ hx164_1)).trans hx164_1
                                    replace p164 := eq_true p164
                                    replace q164 := eq_true q164
                                    have p165 : 0 ≤ (x7_1 : Int) := odt
                                    have q165 : x7_1 < (l1.length : Int) := odt
                                    obtain ⟨ad165, e165, hx165_0, hx165_1⟩ := at_T84 HR1.out x7_1 p165 q165
                                    have hw165_1 := hx165_1
                                    have hw165_0 := hx165_0
                                    cases e165
                                    replace hx165_0 := (HB.out.cell (World.block_lt_of_cell? w _ hx165_0)).trans hx165_0
                                    replace hx165_1 := (HB.out.cell (World.block_lt_of_cell? w _ hx165_1)).trans hx165_1
                                    replace p165 := eq_true p165
                                    replace q165 := eq_true q165
                                    refine start_ (n := 11) (S := fun w' => w'.cell? (ad164.add ((x6_1).toNat * 2)) = some (.string ((rd_T84 l0 x6_1).f0)) ∧ w'.cell? ⟨(ad164.add ((x6_1).toNat * 2)).block, (ad164.add ((x6_1).toNat * 2)).off + 1, none⟩ = some (.int .i64 ((rd_T84 l0 x6_1).f1)) ∧ w'.cell? (ad165.add ((x7_1).toNat * 2)) = some (.string ((rd_T84 l1 x7_1).f0)) ∧ w'.cell? ⟨(ad165.add ((x7_1).toNat * 2)).block, (ad165.add ((x7_1).toNat * 2)).off + 1, none⟩ = some (.int .i64 ((rd_T84 l1 x7_1).f1))) (ds := []) (bs 11 0) (by kernel_rfl) rfl rfl ⟨((HB.out.cell (World.block_lt_of_cell? w _ hw164_0)).trans hw164_0), ((HB.out.cell (World.block_lt_of_cell? w _ hw164_1)).trans hw164_1), ((HB.out.cell (World.block_lt_of_cell? w _ hw165_0)).trans hw165_0), ((HB.out.cell (World.block_lt_of_cell? w _ hw165_1)).trans hw165_1)⟩ (fun hHeld => ?_); refine with_tabW spec_l01Diff.tab5 spec_l01Diff.bits5 (fun HT_ HW_ => ?_)
                                    generalize wc.drew = w43 at HO_5 HB hx164_0 hx164_1 hx165_0 hx165_1 hHeld ⊢
                                    refine pz 0 19 (bs 11 1) HT_ ?_
                                    refine pz 1 20 (bs 11 3) HT_ ?_
                                    refine pz 2 21 (bs 11 7) HT_ ?_
                                    refine pz 3 22 (bs 11 15) HT_ ?_
                                    refine pz 5 24 (bs 11 47) HT_ ?_
                                    refine pz 6 25 (bs 11 111) HT_ ?_
                                    refine pz 7 26 (bs 11 239) HT_ ?_
                                    refine pz 8 27 (bs 11 495) HT_ ?_
                                    refine tz 4 23 (bs 11 511) HT_ HW_ hHeld ?_
                                    refine tz 9 28 (bs 11 1023) HT_ HW_ hHeld ?_
                                    refine pz 10 29 (bs 11 2047) HT_ ?_
                                    refine done_ (done_of HT_.out (by kernel_rfl)) ?_
                                    try go_wp2
                                    have n0_ := Aside0.mk (Kd.R_drew HO_5.out)
                                    have n1_ := Aside0.mk (below_drew1 HB.out)
                                    clear HO_5
                                    clear HB
                                    have HO_5 := n0_
                                    have HB := n1_
                                    clear n0_ n1_
                                    have p166 : 0 ≤ (x7_1 : Int) := odt
                                    have q166 : x7_1 < (l1.length : Int) := odt
                                    obtain ⟨ad166, e166, hx166_0, hx166_1⟩ := at_T84 HR1.out x7_1 p166 q166
                                    have hw166_1 := hx166_1
                                    have hw166_0 := hx166_0
                                    obtain rfl : ad165 = ad166 := (by injection e166)
                                    replace hx166_0 := (HB.out.cell (World.block_lt_of_cell? w _ hx166_0)).trans hx166_0
                                    replace hx166_1 := (HB.out.cell (World.block_lt_of_cell? w _ hx166_1)).trans hx166_1
                                    replace p166 := eq_true p166
                                    replace q166 := eq_true q166
                                    have p167 : 0 ≤ (x7_1 : Int) := odt
                                    have q167 : x7_1 < (l1.length : Int) := odt
                                    obtain ⟨ad167, e167, hx167_0, hx167_1⟩ := at_T84 HR1.out x7_1 p167 q167
                                    have hw167_1 := hx167_1
                                    have hw167_0 := hx167_0
                                    obtain rfl : ad165 = ad167 := (by injection e167)
                                    replace hx167_0 := (HB.out.cell (World.block_lt_of_cell? w _ hx167_0)).trans hx167_0
                                    replace hx167_1 := (HB.out.cell (World.block_lt_of_cell? w _ hx167_1)).trans hx167_1
                                    replace p167 := eq_true p167
                                    replace q167 := eq_true q167
                                    refine start_ (n := 15) (S := fun w' => w'.cell? (ad165.add ((x7_1).toNat * 2)) = some (.string ((rd_T84 l1 x7_1).f0)) ∧ w'.cell? ⟨(ad165.add ((x7_1).toNat * 2)).block, (ad165.add ((x7_1).toNat * 2)).off + 1, none⟩ = some (.int .i64 ((rd_T84 l1 x7_1).f1)) ∧ w'.cell? (ad165.add ((x7_1).toNat * 2)) = some (.string ((rd_T84 l1 x7_1).f0)) ∧ w'.cell? ⟨(ad165.add ((x7_1).toNat * 2)).block, (ad165.add ((x7_1).toNat * 2)).off + 1, none⟩ = some (.int .i64 ((rd_T84 l1 x7_1).f1))) (ds := []) (bs 15 0) (by kernel_rfl) rfl rfl ⟨((HB.out.cell (World.block_lt_of_cell? w _ hw166_0)).trans hw166_0), ((HB.out.cell (World.block_lt_of_cell? w _ hw166_1)).trans hw166_1), ((HB.out.cell (World.block_lt_of_cell? w _ hw167_0)).trans hw167_0), ((HB.out.cell (World.block_lt_of_cell? w _ hw167_1)).trans hw167_1)⟩ (fun hHeld => ?_); refine with_tabW spec_l01Diff.tab6 spec_l01Diff.bits6 (fun HT_ HW_ => ?_)
                                    generalize w43.drew = w44 at HO_5 HB hx166_0 hx166_1 hx167_0 hx167_1 hHeld ⊢
                                    refine pz 0 30 (bs 15 1) HT_ ?_
                                    refine pz 1 31 (bs 15 3) HT_ ?_
                                    refine pz 2 32 (bs 15 7) HT_ ?_
                                    refine pz 3 33 (bs 15 15) HT_ ?_
                                    refine pz 4 34 (bs 15 31) HT_ ?_
                                    refine pz 6 36 (bs 15 95) HT_ ?_
                                    refine pz 7 37 (bs 15 223) HT_ ?_
                                    refine pz 8 38 (bs 15 479) HT_ ?_
                                    refine pz 9 39 (bs 15 991) HT_ ?_
                                    refine tz 5 35 (bs 15 1023) HT_ HW_ hHeld ?_
                                    refine tz 10 40 (bs 15 2047) HT_ HW_ hHeld ?_
                                    refine pz 11 41 (bs 15 4095) HT_ ?_
                                    refine one_ (i := 12) (N := some 42) (bs 15 8191) rfl rfl (one_of HT_.out (by kernel_rfl)) (by decide) (fun K hK => ?_)
                                    refine value_ (w1 := ?_) (v := ?_) (by rfl) rfl ?_ ?_
                                    rotate_left 2
                                    · go_simp
                                      constructor
                                      · rfl
                                      · rfl
                                    refine hK.out _ _ ⟨(World.cell?_alloc_lt _ _ _ (World.block_lt_of_cell? _ _ (((HB.out.cell (World.block_lt_of_cell? w _ hw166_0)).trans hw166_0)))).trans (((HB.out.cell (World.block_lt_of_cell? w _ hw166_0)).trans hw166_0)), (World.cell?_alloc_lt _ _ _ (World.block_lt_of_cell? _ _ (((HB.out.cell (World.block_lt_of_cell? w _ hw166_1)).trans hw166_1)))).trans (((HB.out.cell (World.block_lt_of_cell? w _ hw166_1)).trans hw166_1)), (World.cell?_alloc_lt _ _ _ (World.block_lt_of_cell? _ _ (((HB.out.cell (World.block_lt_of_cell? w _ hw167_0)).trans hw167_0)))).trans (((HB.out.cell (World.block_lt_of_cell? w _ hw167_0)).trans hw167_0)), (World.cell?_alloc_lt _ _ _ (World.block_lt_of_cell? _ _ (((HB.out.cell (World.block_lt_of_cell? w _ hw167_1)).trans hw167_1)))).trans (((HB.out.cell (World.block_lt_of_cell? w _ hw167_1)).trans hw167_1))⟩ (fun hHeld => ?_)
                                    clear hK K
                                    refine norm_ (a' := ?_) ?_ ?_
                                    rotate_left
                                    · show Act.put _ (some 42) _ = _
                                      simp only [Act.put, List.setIfInBounds_toArray, List.set_cons_zero, List.set_cons_succ, i64_w, i32_w]
                                      rfl
                                    refine one_ (i := 13) (N := some 43) (bs 15 16383) rfl rfl (one_of HT_.out (by kernel_rfl)) (by decide) (fun K hK => ?_)
                                    refine Kd.R_append_step k68 (w0 := w) w.heap.size (by rfl) (.tmp 30) (.tmp 42) 30 68 (.agg #[(.string ⟨#[]⟩), (.int .i64 0), (.bool false)]) 32 rfl Tryz.underlying30 info68 rfl (by decide) (by omega) u5 x5_1 (⟨(rd_T84 l1 x7_1).f0, (rd_T84 l1 x7_1).f1, false⟩ : S68) [.string ((rd_T84 l1 x7_1).f0), .int .i64 ((rd_T84 l1 x7_1).f1), .bool false] (fun _ => True) (fun _ => False) rfl rfl ?aP (fun _ hk => hk.elim) ?aF ?aO ?aB ?aS ?aL ?_
                                    (case aP => exact k68_mkM _ _ _ (⟨(rd_T84 l1 x7_1).f0, (rd_T84 l1 x7_1).f1, false⟩ : S68))
                                    (case aB => exact bW)
                                    (case aF => exact (fun _ _ => trivial))
                                    (case aO => exact (pR HO_5))
                                    (case aS => exact (below_size (w := w) bW))
                                    (case aL => have := LMc42.out; omega)
                                    intro v169 w45 ho hb hg hat
                                    rw [← Ny168.out] at ho
                                    have n0_ := Aside0.mk (hb)
                                    have n1_ := Aside0.mk (ho)
                                    clear HB
                                    clear HO_5
                                    have HB := n0_
                                    have HO170 := n1_
                                    clear n0_ n1_
                                    clear ho hb hg hat
                                    refine hK.out _ _ ⟨((HB.out.cell (World.block_lt_of_cell? w _ hw166_0)).trans hw166_0), ((HB.out.cell (World.block_lt_of_cell? w _ hw166_1)).trans hw166_1), ((HB.out.cell (World.block_lt_of_cell? w _ hw167_0)).trans hw167_0), ((HB.out.cell (World.block_lt_of_cell? w _ hw167_1)).trans hw167_1)⟩ (fun hHeld => ?_)
                                    clear hK K
                                    refine norm_ (a' := ?_) ?_ ?_
                                    rotate_left
                                    · show Act.put _ (some 43) _ = _
                                      simp only [Act.put, List.setIfInBounds_toArray, List.set_cons_zero, List.set_cons_succ, i64_w, i32_w]
                                      rfl
                                    refine pz 14 5 (bs 15 32767) HT_ ?_
                                    refine done_ (done_of HT_.out (by kernel_rfl)) ?_
                                    try go_wp2
                                    go_roundg kj21
                                    case measure => have := HK1.out; have := HJ4.out; have := HJ7.out; have := HJ21.out; omega
                                    case rel => exact ⟨(y168), (wrap64 (x6_1 + 1)), (wrap64 (x7_1 + 1)), vE, vE, H', ⟨by have := HK1.out; have := HJ4.out; have := HJ7.out; have := HJ21.out; omega⟩, ⟨by exact HO170.out⟩, ⟨bW⟩⟩
                                  · rw [if_neg c42] at H
                                    exact absurd H (by simp)
                              · rw [if_neg c39] at H
                                exact absurd H (by simp)
                            · rw [if_neg c38] at H
                              exact absurd H (by simp)
                          · rw [if_neg c37] at H
                            exact absurd H (by simp)
                        · rw [if_neg c36] at H
                          exact absurd H (by simp)
          · replace c7 := Bool.eq_false_iff.mpr c7
            subst c7
            have H1 : (some x5_1) = some r := by rw [if_neg (show ¬ (false = true) by decide)] at H; exact H
            clear H
            have H := H1
            clear H1
            obtain rfl := Option.some.inj H
            go_wp2
            go_ret
            exact ⟨_, by rfl, by exact HO_5.out, bW⟩
end Go.Proofs.YtblejbgkcgajgaaGreat.Q
end

section
namespace Go.Proofs.YtblejbgkcgajgaaGreat.Q
open Go.RowKit Go.Proofs.YtblejbgkcgajgaaGreatW.PrintWords Go.Proofs.YtblejbgkcgajgaaGreatW.PrintLast Go.Proofs.YtblejbgkcgajgaaGreatW.PrintMore
attribute [local go_sem] max2_int min2_int max_two min_two max_three min_three max_four min_four   -- for this text's walks alone
set_option linter.unusedVariables false
set_option linter.unusedSimpArgs false
attribute [local go_sem] bin_leq bin_gtr bin_geq
def spec_l02Find.l0 : Nat → List (S68) → ByteArray → Int → Option (ByteArray × Int × Bool × Bool)
  | 0, _, _, _ => none
  | k + 1, x0, x1, x6 => if x6 < (x0.length : Int) then (if 0 ≤ x6 then (if ((rd_T68 x0 x6).f0).toList = x1.toList then (some ((rd_T68 x0 x6).f0, (rd_T68 x0 x6).f1, (rd_T68 x0 x6).f2, true)) else (spec_l02Find.l0 k x0 x1 (wrap64 (x6 + 1)))) else (none)) else (some ((⟨#[]⟩ : ByteArray), 0, false, false))
def spec_l02Find.f (k : Nat) (l0 : List (S68)) (a1 : ByteArray) : Option (ByteArray × Int × Bool × Bool) := spec_l02Find.l0 k l0 a1 0
set_option maxHeartbeats 8000000 in
set_option maxRecDepth 100000 in
theorem spec_l02Find.calls (k : Nat) (A0 : Option Addr) (c0 : Nat) (l0 : List (S68)) (a1 : ByteArray) (r1 : ByteArray) (r2 : Int) (r3 : Bool) (r4 : Bool) (w : World) (hr0 : Kd.C k68 w A0 l0.length l0) (hc0 : l0.length ≤ c0) (h : spec_l02Find.f k l0 a1 = some (r1, r2, r3, r4)) :
    Calls Tryz.prog 66 #[.slice A0 l0.length c0, .string a1] w fun e w' => e = .returned (.tuple #[.agg #[.string r1, .int .i64 r2, .bool r3], .bool r4]) ∧ Below w.heap.size w w' := by
  have hu68 := Tryz.underlying68
  have HR0 := Aside0.mk hr0
  have HC0 := Aside0.mk hc0
  clear hr0 hc0
  have HB := Aside0.mk (Below.refl w.heap.size w)
  have H : (spec_l02Find.l0 k l0 a1 0) = some (r1, r2, r3, r4) := h
  clear h
  have H' := Aside0.mk H
  clear H
  go_enter Tryz.func66, Tryz.ntmps66
  go_wp2_with (((with_reducible refine gate_dst (N := 4) rfl ?_); refine bE (N := 4) (cs := #[.string (⟨#[]⟩ : ByteArray), .int .i64 0, .bool false]) (t := 68) ?_; intro gb439 hg w3 hbox hb; have n0_ := Aside0.mk (below_step (w := w) bW hb); have n1_ := Aside0.mk (hbox); have n2_ := Aside0.mk (gS (w := w) hg); have n3_ := n2_; clear HB; have HB := n0_; have BK439 := n1_; have GW439 := n2_; have GE439 := n3_; clear n0_ n1_ n2_ n3_; clear hb hbox hg))
  go_loopg [6] k (fun kq v6 w' => ∃ (x6_1 : Int) (x440000_1 : ByteArray) (x440001_1 : Int) (x440002_1 : Bool), v6 = .int .i64 x6_1 ∧ Aside0 (spec_l02Find.l0 kq l0 a1 x6_1 = some (r1, r2, r3, r4)) ∧ Aside0 (kq ≤ k) ∧ Aside0 (w'.heap[gb439]? = some (.cells #[.string x440000_1, .int .i64 x440001_1, .bool x440002_1] 68 (0, 0))) ∧ Aside0 (Below w.heap.size w w'))
  case atStart => exact ⟨(0), ((⟨#[]⟩ : ByteArray)), (0), (false), vE, H', ⟨Nat.le_refl _⟩, ⟨by exact BK439.out⟩, ⟨bW⟩⟩
  case round =>
    clear H'
    obtain ⟨x6_1, x440000_1, x440001_1, x440002_1, rfl, HA, HK1, BK439, HB⟩ := hrel
    cases gk with
    | zero => exact absurd HA.out (by simp [spec_l02Find.l0])
    | succ k1 =>
      have H := HA.out
      clear HA
      simp only [spec_l02Find.l0] at H
      by_cases c4 : x6_1 < (l0.length : Int)
      · rw [if_pos c4] at H
        have c4b0 : decide (x6_1 < (l0.length : Int)) = true := decide_eq_true c4
        clear c4
        by_cases c5 : 0 ≤ x6_1
        · rw [if_pos c5] at H
          have c5b0 : decide (0 ≤ x6_1) = true := decide_eq_true c5
          clear c5
          by_cases c6 : ((rd_T68 l0 x6_1).f0).toList = a1.toList
          · rw [if_pos c6] at H
            have c6b0 : (((rd_T68 l0 x6_1).f0).toList == a1.toList) = true := beq_iff_eq.mpr c6
            have c6b1 : (((rd_T68 l0 x6_1).f0).toList != a1.toList) = false := bne_eq_false_iff_eq.mpr c6
            clear c6
            simp only [Option.some.injEq, Prod.mk.injEq] at H
            obtain ⟨rfl, rfl, rfl, rfl⟩ := H
            have p440 : 0 ≤ (x6_1 : Int) := odt
            have q440 : x6_1 < (l0.length : Int) := odt
            obtain ⟨ad440, e440, hx440_0, hx440_1, hx440_2⟩ := at_T68 HR0.out x6_1 p440 q440
            cases e440
            replace hx440_0 := (HB.out.cell (World.block_lt_of_cell? w _ hx440_0)).trans hx440_0
            replace hx440_1 := (HB.out.cell (World.block_lt_of_cell? w _ hx440_1)).trans hx440_1
            replace hx440_2 := (HB.out.cell (World.block_lt_of_cell? w _ hx440_2)).trans hx440_2
            replace p440 := eq_true p440
            replace q440 := eq_true q440
            have p441 : 0 ≤ (x6_1 : Int) := odt
            have q441 : x6_1 < (l0.length : Int) := odt
            obtain ⟨ad441, e441, hx441_0, hx441_1, hx441_2⟩ := at_T68 HR0.out x6_1 p441 q441
            obtain rfl : ad440 = ad441 := (by injection e441)
            replace hx441_0 := (HB.out.cell (World.block_lt_of_cell? w _ hx441_0)).trans hx441_0
            replace hx441_1 := (HB.out.cell (World.block_lt_of_cell? w _ hx441_1)).trans hx441_1
            replace hx441_2 := (HB.out.cell (World.block_lt_of_cell? w _ hx441_2)).trans hx441_2
            replace p441 := eq_true p441
            replace q441 := eq_true q441
            have hcz7_0 : wr.cell? ⟨gb439, 0, none⟩ = some (.string x440000_1) := (blk_cell BK439.out 0).trans rfl
            have hcz7_1 : wr.cell? ⟨gb439, 1, none⟩ = some (.int .i64 x440001_1) := (blk_cell BK439.out 1).trans rfl
            have hcz7_2 : wr.cell? ⟨gb439, 2, none⟩ = some (.bool x440002_1) := (blk_cell BK439.out 2).trans rfl
            have hfz7_0 := blk_frozen BK439.out 0
            have hfz7_1 := blk_frozen BK439.out 1
            have hfz7_2 := blk_frozen BK439.out 2
            go_wp2
            refine bodyPost_ret (results_ct rfl _ _ gb439 68 #[.string ((rd_T68 l0 x6_1).f0), .int .i64 ((rd_T68 l0 x6_1).f1), .bool ((rd_T68 l0 x6_1).f2)] (0, 0) _ rfl (by refine blk_put (cs := #[.string ((rd_T68 l0 x6_1).f0), .int .i64 ((rd_T68 l0 x6_1).f1), .bool x440002_1]) ?_ 2 _ rfl; refine blk_put (cs := #[.string ((rd_T68 l0 x6_1).f0), .int .i64 x440001_1, .bool x440002_1]) ?_ 1 _ rfl; refine blk_put (cs := #[.string x440000_1, .int .i64 x440001_1, .bool x440002_1]) ?_ 0 _ rfl; exact BK439.out) Tryz.underlying68 rfl (by kernel_rfl)) rfl ?_
            exact ⟨rE, bW⟩
          · rw [if_neg c6] at H
            have c6b0 : (((rd_T68 l0 x6_1).f0).toList == a1.toList) = false := beq_eq_false_iff_ne.mpr c6
            have c6b1 : (((rd_T68 l0 x6_1).f0).toList != a1.toList) = true := bne_iff_ne.mpr c6
            have H' := Aside0.mk H
            clear H
            have p440 : 0 ≤ (x6_1 : Int) := odt
            have q440 : x6_1 < (l0.length : Int) := odt
            obtain ⟨ad440, e440, hx440_0, hx440_1, hx440_2⟩ := at_T68 HR0.out x6_1 p440 q440
            cases e440
            replace hx440_0 := (HB.out.cell (World.block_lt_of_cell? w _ hx440_0)).trans hx440_0
            replace hx440_1 := (HB.out.cell (World.block_lt_of_cell? w _ hx440_1)).trans hx440_1
            replace hx440_2 := (HB.out.cell (World.block_lt_of_cell? w _ hx440_2)).trans hx440_2
            replace p440 := eq_true p440
            replace q440 := eq_true q440
            go_wp2
            go_roundg k1
            case measure => have := HK1.out; omega
            case rel => exact ⟨(wrap64 (x6_1 + 1)), (x440000_1), (x440001_1), (x440002_1), vE, H', ⟨by have := HK1.out; omega⟩, ⟨by exact BK439.out⟩, ⟨bW⟩⟩
        · rw [if_neg c5] at H
          exact absurd H (by simp)
      · rw [if_neg c4] at H
        have c4b0 : decide (x6_1 < (l0.length : Int)) = false := decide_eq_false c4
        clear c4
        simp only [Option.some.injEq, Prod.mk.injEq] at H
        obtain ⟨rfl, rfl, rfl, rfl⟩ := H
        have hcz8_0 : wr.cell? ⟨gb439, 0, none⟩ = some (.string x440000_1) := (blk_cell BK439.out 0).trans rfl
        have hcz8_1 : wr.cell? ⟨gb439, 1, none⟩ = some (.int .i64 x440001_1) := (blk_cell BK439.out 1).trans rfl
        have hcz8_2 : wr.cell? ⟨gb439, 2, none⟩ = some (.bool x440002_1) := (blk_cell BK439.out 2).trans rfl
        have hfz8_0 := blk_frozen BK439.out 0
        have hfz8_1 := blk_frozen BK439.out 1
        have hfz8_2 := blk_frozen BK439.out 2
        go_wp2
        refine bodyPost_ret (results_ct rfl _ _ gb439 68 #[.string (⟨#[]⟩ : ByteArray), .int .i64 0, .bool false] (0, 0) _ rfl (by refine blk_put (cs := #[.string (⟨#[]⟩ : ByteArray), .int .i64 0, .bool x440002_1]) ?_ 2 _ rfl; refine blk_put (cs := #[.string (⟨#[]⟩ : ByteArray), .int .i64 x440001_1, .bool x440002_1]) ?_ 1 _ rfl; refine blk_put (cs := #[.string x440000_1, .int .i64 x440001_1, .bool x440002_1]) ?_ 0 _ rfl; exact BK439.out) Tryz.underlying68 rfl (by kernel_rfl)) rfl ?_
        exact ⟨rE, bW⟩
end Go.Proofs.YtblejbgkcgajgaaGreat.Q
end

section
namespace Go.Proofs.YtblejbgkcgajgaaGreat.Q
open Go.RowKit Go.Proofs.YtblejbgkcgajgaaGreatW.PrintWords Go.Proofs.YtblejbgkcgajgaaGreatW.PrintLast Go.Proofs.YtblejbgkcgajgaaGreatW.PrintMore
attribute [local go_sem] max2_int min2_int max_two min_two max_three min_three max_four min_four   -- for this text's walks alone
set_option linter.unusedVariables false
set_option linter.unusedSimpArgs false
attribute [local go_sem] bin_leq bin_gtr bin_geq
def spec_l01Remove.l0 : Nat → List (S84) → ByteArray → List (S84) → Int → Option ((List (S84)))
  | 0, _, _, _, _ => none
  | k + 1, x0, x1, x5, x6 => if x6 < (x0.length : Int) then (if 0 ≤ x6 then (if ((rd_T84 x0 x6).f0).toList = x1.toList then (spec_l01Remove.l0 k x0 x1 x5 (wrap64 (x6 + 1))) else (if x5.length < 5864062014805 then (spec_l01Remove.l0 k x0 x1 (x5 ++ [(⟨(rd_T84 x0 x6).f0, (rd_T84 x0 x6).f1⟩ : S84)]) (wrap64 (x6 + 1))) else (none))) else (none)) else (some x5)
def spec_l01Remove.f (k : Nat) (l0 : List (S84)) (a1 : ByteArray) : Option ((List (S84))) := spec_l01Remove.l0 k l0 a1 (([] : List (S84))) 0
set_option maxHeartbeats 8000000 in
set_option maxRecDepth 100000 in
theorem spec_l01Remove.calls (k : Nat) (A0 : Option Addr) (c0 : Nat) (l0 : List (S84)) (a1 : ByteArray) (r : List (S84)) (w : World) (hr0 : Kd.C k84 w A0 l0.length l0) (hc0 : l0.length ≤ c0) (h : spec_l01Remove.f k l0 a1 = some r) :
    Calls Tryz.prog 95 #[.slice A0 l0.length c0, .string a1] w fun e w' => ∃ v0_ : Value, e = .returned (v0_) ∧ Kd.R k84 84 w' w.heap.size (fun _ => True) v0_ r ∧ Below w.heap.size w w' := by
  have hu84 := Tryz.underlying84
  have HR0 := Aside0.mk hr0
  have HC0 := Aside0.mk hc0
  clear hr0 hc0
  have HB := Aside0.mk (Below.refl w.heap.size w)
  have H : (spec_l01Remove.l0 k l0 a1 (([] : List (S84))) 0) = some r := h
  clear h
  obtain ⟨y442, hy442⟩ : ∃ y_ : List (S84), y_ = (([] : List (S84))) := ⟨_, rfl⟩
  replace H : (spec_l01Remove.l0 k l0 a1 y442 0) = some r := by (rw [hy442]; with_reducible exact H)
  have Ny442 := Aside0.mk hy442
  clear hy442
  have H' := Aside0.mk H
  clear H
  go_enter Tryz.func95, Tryz.ntmps95
  go_wp2_with (((with_reducible refine gate_dst (N := 7) rfl ?_); refine Kd.R_lit k84 _ 84 ?hg (N := 7) ?hd (xs := ([] : List (S84))) (inner := []) (ok := fun _ => True) (okp := fun _ => True) ?hr ?hp (fun _ hk => hk) trivial (Below.refl _ _) (Nat.le_refl _) (by simp) ?_; (case hd => rfl); (case hg => rfl); (case hr => (go_simp; done)); (case hp => exact (Reps.none _ _)); intro v443 w3 ho4 hb hg_ hnew_; clear hg_ hnew_; (rw [← Ny442.out] at ho4); have n0_ := Aside0.mk (Kd.R_lower ho4 (below_size (w := w) bW)); have n1_ := Aside0.mk (below_step (w := w) bW hb); clear HB; have HO444 := n0_; have HB := n1_; clear n0_ n1_; clear hb ho4))
  go_loopg [5, 6] k (fun kq v5 v6 w' => ∃ (x5_1 : List (S84)) (x6_1 : Int), v6 = .int .i64 x6_1 ∧ Aside0 (spec_l01Remove.l0 kq l0 a1 x5_1 x6_1 = some r) ∧ Aside0 (kq ≤ k) ∧ Aside0 (Kd.R k84 84 w' w.heap.size (fun _ => True) v5 x5_1) ∧ Aside0 (Below w.heap.size w w'))
  case atStart => exact ⟨(y442), (0), vE, H', ⟨Nat.le_refl _⟩, ⟨by exact HO444.out⟩, ⟨bW⟩⟩
  case round =>
    clear H'
    obtain ⟨x5_1, x6_1, rfl, HA, HK1, HO_5, HB⟩ := hrel
    cases gk with
    | zero => exact absurd HA.out (by simp [spec_l01Remove.l0])
    | succ k1 =>
      have H := HA.out
      clear HA
      simp only [spec_l01Remove.l0] at H
      by_cases c5 : x6_1 < (l0.length : Int)
      · rw [if_pos c5] at H
        have c5b0 : decide (x6_1 < (l0.length : Int)) = true := decide_eq_true c5
        clear c5
        by_cases c6 : 0 ≤ x6_1
        · rw [if_pos c6] at H
          have c6b0 : decide (0 ≤ x6_1) = true := decide_eq_true c6
          clear c6
          by_cases c7 : ((rd_T84 l0 x6_1).f0).toList = a1.toList
          · rw [if_pos c7] at H
            have c7b0 : (((rd_T84 l0 x6_1).f0).toList == a1.toList) = true := beq_iff_eq.mpr c7
            have c7b1 : (((rd_T84 l0 x6_1).f0).toList != a1.toList) = false := bne_eq_false_iff_eq.mpr c7
            clear c7
            have H' := Aside0.mk H
            clear H
            have p445 : 0 ≤ (x6_1 : Int) := odt
            have q445 : x6_1 < (l0.length : Int) := odt
            obtain ⟨ad445, e445, hx445_0, hx445_1⟩ := at_T84 HR0.out x6_1 p445 q445
            cases e445
            replace hx445_0 := (HB.out.cell (World.block_lt_of_cell? w _ hx445_0)).trans hx445_0
            replace hx445_1 := (HB.out.cell (World.block_lt_of_cell? w _ hx445_1)).trans hx445_1
            replace p445 := eq_true p445
            replace q445 := eq_true q445
            go_wp2
            go_roundg k1
            case measure => have := HK1.out; omega
            case rel => exact ⟨(x5_1), (wrap64 (x6_1 + 1)), vE, H', ⟨by have := HK1.out; omega⟩, ⟨by exact HO_5.out⟩, ⟨bW⟩⟩
          · rw [if_neg c7] at H
            have c7b0 : (((rd_T84 l0 x6_1).f0).toList == a1.toList) = false := beq_eq_false_iff_ne.mpr c7
            have c7b1 : (((rd_T84 l0 x6_1).f0).toList != a1.toList) = true := bne_iff_ne.mpr c7
            by_cases c8 : x5_1.length < 5864062014805
            · rw [if_pos c8] at H
              have LMc8 := Aside0.mk c8
              clear c8
              obtain ⟨y447, hy447⟩ : ∃ y_ : List (S84), y_ = (x5_1 ++ [(⟨(rd_T84 l0 x6_1).f0, (rd_T84 l0 x6_1).f1⟩ : S84)]) := ⟨_, rfl⟩
              replace H : (spec_l01Remove.l0 k1 l0 a1 y447 (wrap64 (x6_1 + 1))) = some r := by (rw [hy447]; with_reducible exact H)
              have Ny447 := Aside0.mk hy447
              clear hy447
              have H' := Aside0.mk H
              clear H
              have p445 : 0 ≤ (x6_1 : Int) := odt
              have q445 : x6_1 < (l0.length : Int) := odt
              obtain ⟨ad445, e445, hx445_0, hx445_1⟩ := at_T84 HR0.out x6_1 p445 q445
              cases e445
              replace hx445_0 := (HB.out.cell (World.block_lt_of_cell? w _ hx445_0)).trans hx445_0
              replace hx445_1 := (HB.out.cell (World.block_lt_of_cell? w _ hx445_1)).trans hx445_1
              replace p445 := eq_true p445
              replace q445 := eq_true q445
              have p446 : 0 ≤ (x6_1 : Int) := odt
              have q446 : x6_1 < (l0.length : Int) := odt
              obtain ⟨ad446, e446, hx446_0, hx446_1⟩ := at_T84 HR0.out x6_1 p446 q446
              obtain rfl : ad445 = ad446 := (by injection e446)
              replace hx446_0 := (HB.out.cell (World.block_lt_of_cell? w _ hx446_0)).trans hx446_0
              replace hx446_1 := (HB.out.cell (World.block_lt_of_cell? w _ hx446_1)).trans hx446_1
              replace p446 := eq_true p446
              replace q446 := eq_true q446
              go_wp2_with (((with_reducible refine gate_builtin (b := .append) (xs := #[.tmp 21, .tmp 26]) rfl ?_); at_builtin; refine Kd.R_append k84 (w0 := w) w.heap.size rfl (.tmp 21) (.tmp 26) 46 84 (.agg #[(.string ⟨#[]⟩), (.int .i64 0)]) 24 rfl Tryz.underlying46 info84 rfl (by decide) (by omega) u5 x5_1 (⟨(rd_T84 l0 x6_1).f0, (rd_T84 l0 x6_1).f1⟩ : S84) [.string ((rd_T84 l0 x6_1).f0), .int .i64 ((rd_T84 l0 x6_1).f1)] (fun _ => True) (fun _ => False) rfl rfl ?aP (fun _ hk => hk.elim) ?aF ?aO ?aB ?aS ?aL ?_; (case aP => exact k84_mkM _ _ _ (⟨(rd_T84 l0 x6_1).f0, (rd_T84 l0 x6_1).f1⟩ : S84)); (case aB => exact bW); (case aF => exact (fun _ _ => trivial)); (case aO => exact (pR HO_5)); (case aS => exact (below_size (w := w) bW)); (case aL => have := LMc8.out; omega); intro v448 w9 ho hb hg hat; rw [← Ny447.out] at ho; have n0_ := Aside0.mk (hb); have n1_ := Aside0.mk (ho); clear HB; clear HO_5; have HB := n0_; have HO449 := n1_; clear n0_ n1_; clear ho hb hg hat))
              go_roundg k1
              case measure => have := HK1.out; omega
              case rel => exact ⟨(y447), (wrap64 (x6_1 + 1)), vE, H', ⟨by have := HK1.out; omega⟩, ⟨by exact HO449.out⟩, ⟨bW⟩⟩
            · rw [if_neg c8] at H
              exact absurd H (by simp)
        · rw [if_neg c6] at H
          exact absurd H (by simp)
      · rw [if_neg c5] at H
        have c5b0 : decide (x6_1 < (l0.length : Int)) = false := decide_eq_false c5
        clear c5
        obtain rfl := Option.some.inj H
        go_wp2
        go_ret
        exact ⟨_, by rfl, by exact HO_5.out, bW⟩
end Go.Proofs.YtblejbgkcgajgaaGreat.Q
end

section
namespace Go.Proofs.YtblejbgkcgajgaaGreat.Q
open Go.RowKit Go.Proofs.YtblejbgkcgajgaaGreatW.PrintWords Go.Proofs.YtblejbgkcgajgaaGreatW.PrintLast Go.Proofs.YtblejbgkcgajgaaGreatW.PrintMore
attribute [local go_sem] max2_int min2_int max_two min_two max_three min_three max_four min_four   -- for this text's walks alone
set_option linter.unusedVariables false
set_option linter.unusedSimpArgs false
attribute [local go_sem] bin_leq bin_gtr bin_geq
mutual
def spec_l01Put.l0 : Nat → List (S84) → ByteArray → Int → List (S84) → Bool → Int → Option ((List (S84)))
  | 0, _, _, _, _, _, _ => none
  | k + 1, x0, x1, x2, x7, x8, x9 => if x9 < (x0.length : Int) then (if x8 = true then (spec_l01Put.j1 k x0 x1 x2 x7 x8 x9 false) else (if 0 ≤ x9 then (spec_l01Put.j1 k x0 x1 x2 x7 x8 x9 (!(Op.bytesLess (((rd_T84 x0 x9).f0).toList) x1.toList))) else (none))) else (if x8 = true then (some x7) else (if x7.length < 5864062014805 then (some (x7 ++ [(⟨x1, x2⟩ : S84)])) else (none)))
def spec_l01Put.j1 : Nat → List (S84) → ByteArray → Int → List (S84) → Bool → Int → Bool → Option ((List (S84)))
  | 0, _, _, _, _, _, _, _ => none
  | k + 1, x0, x1, x2, x7, x8, x9, x27 => if x27 = true then (if x7.length < 5864062014805 then ((some (x7 ++ [(⟨x1, x2⟩ : S84)] : List (S84))).bind fun y457 => (if 0 ≤ x9 then (if x9 < (x0.length : Int) then (if ((rd_T84 x0 x9).f0).toList = x1.toList then (spec_l01Put.l0 k x0 x1 x2 y457 true (wrap64 (x9 + 1))) else (if y457.length < 5864062014805 then (spec_l01Put.l0 k x0 x1 x2 (y457 ++ [(⟨(rd_T84 x0 x9).f0, (rd_T84 x0 x9).f1⟩ : S84)]) true (wrap64 (x9 + 1))) else (none))) else (none)) else (none))) else (none)) else (if 0 ≤ x9 then (if x9 < (x0.length : Int) then (if ((rd_T84 x0 x9).f0).toList = x1.toList then (spec_l01Put.l0 k x0 x1 x2 x7 x8 (wrap64 (x9 + 1))) else (if x7.length < 5864062014805 then (spec_l01Put.l0 k x0 x1 x2 (x7 ++ [(⟨(rd_T84 x0 x9).f0, (rd_T84 x0 x9).f1⟩ : S84)]) x8 (wrap64 (x9 + 1))) else (none))) else (none)) else (none))
end
def spec_l01Put.f (k : Nat) (l0 : List (S84)) (a1 : ByteArray) (a2 : Int) : Option ((List (S84))) := spec_l01Put.l0 k l0 a1 a2 (([] : List (S84))) false 0
set_option maxHeartbeats 8000000 in
set_option maxRecDepth 100000 in
theorem spec_l01Put.calls (k : Nat) (A0 : Option Addr) (c0 : Nat) (l0 : List (S84)) (a1 : ByteArray) (a2 : Int) (r : List (S84)) (w : World) (hr0 : Kd.C k84 w A0 l0.length l0) (hc0 : l0.length ≤ c0) (h : spec_l01Put.f k l0 a1 a2 = some r) :
    Calls Tryz.prog 96 #[.slice A0 l0.length c0, .string a1, .int .i64 a2] w fun e w' => ∃ v0_ : Value, e = .returned (v0_) ∧ Kd.R k84 84 w' w.heap.size (fun _ => True) v0_ r ∧ Below w.heap.size w w' := by
  have hu84 := Tryz.underlying84
  have HR0 := Aside0.mk hr0
  have HC0 := Aside0.mk hc0
  clear hr0 hc0
  have HB := Aside0.mk (Below.refl w.heap.size w)
  have H : (spec_l01Put.l0 k l0 a1 a2 (([] : List (S84))) false 0) = some r := h
  clear h
  obtain ⟨y450, hy450⟩ : ∃ y_ : List (S84), y_ = (([] : List (S84))) := ⟨_, rfl⟩
  replace H : (spec_l01Put.l0 k l0 a1 a2 y450 false 0) = some r := by (rw [hy450]; with_reducible exact H)
  have Ny450 := Aside0.mk hy450
  clear hy450
  have H' := Aside0.mk H
  clear H
  go_enter Tryz.func96, Tryz.ntmps96
  go_wp2_with (((with_reducible refine gate_dst (N := 10) rfl ?_); refine Kd.R_lit k84 _ 84 ?hg (N := 10) ?hd (xs := ([] : List (S84))) (inner := []) (ok := fun _ => True) (okp := fun _ => True) ?hr ?hp (fun _ hk => hk) trivial (Below.refl _ _) (Nat.le_refl _) (by simp) ?_; (case hd => rfl); (case hg => rfl); (case hr => (go_simp; done)); (case hp => exact (Reps.none _ _)); intro v451 w4 ho5 hb hg_ hnew_; clear hg_ hnew_; (rw [← Ny450.out] at ho5); have n0_ := Aside0.mk (Kd.R_lower ho5 (below_size (w := w) bW)); have n1_ := Aside0.mk (below_step (w := w) bW hb); clear HB; have HO452 := n0_; have HB := n1_; clear n0_ n1_; clear hb ho5))
  go_loopg [7, 8, 9] k (fun kq v7 v8 v9 w' => ∃ (x7_1 : List (S84)) (x8_1 : Bool) (x9_1 : Int), v8 = .bool x8_1 ∧ v9 = .int .i64 x9_1 ∧ Aside0 (spec_l01Put.l0 kq l0 a1 a2 x7_1 x8_1 x9_1 = some r) ∧ Aside0 (kq ≤ k) ∧ Aside0 (Kd.R k84 84 w' w.heap.size (fun _ => True) v7 x7_1) ∧ Aside0 (Below w.heap.size w w'))
  case atStart => exact ⟨(y450), (false), (0), vE, vE, H', ⟨Nat.le_refl _⟩, ⟨by exact HO452.out⟩, ⟨bW⟩⟩
  case round =>
    clear H'
    obtain ⟨x7_1, x8_1, x9_1, rfl, rfl, HA, HK1, HO_7, HB⟩ := hrel
    cases gk with
    | zero => exact absurd HA.out (by simp [spec_l01Put.l0])
    | succ k1 =>
      have H := HA.out
      clear HA
      simp only [spec_l01Put.l0] at H
      by_cases c6 : x9_1 < (l0.length : Int)
      · rw [if_pos c6] at H
        have c6b0 : decide (x9_1 < (l0.length : Int)) = true := decide_eq_true c6
        clear c6
        have HC7 := Aside0.mk H
        clear H
        go_upto_region 6 with (fail)
        go_cut [27] (fun v27 wc => ∃ (kq : Nat) (x27_6 : Bool), v27 = .bool x27_6 ∧ Aside0 (spec_l01Put.j1 kq l0 a1 a2 x7_1 x8_1 x9_1 x27_6 = some r) ∧ Aside0 (kq ≤ k1) ∧ Aside0 (Kd.R k84 84 wc w.heap.size (fun _ => True) u7 x7_1) ∧ Aside0 (Below w.heap.size w wc))
        case first =>
          have H := HC7.out
          clear HC7
          by_cases c8 : x8_1 = true
          · subst c8
            have H1 : (spec_l01Put.j1 k1 l0 a1 a2 x7_1 true x9_1 false) = some r := by rw [if_pos rfl] at H; exact H
            clear H
            have H := H1
            clear H1
            have H' := Aside0.mk H
            clear H
            go_wp2
            go_meet
            case rel => exact ⟨_, (false), vE, H', ⟨by have := HK1.out; omega⟩, ⟨by exact HO_7.out⟩, ⟨bW⟩⟩
          · replace c8 := Bool.eq_false_iff.mpr c8
            subst c8
            have H1 : (if 0 ≤ x9_1 then (spec_l01Put.j1 k1 l0 a1 a2 x7_1 false x9_1 (!(Op.bytesLess (((rd_T84 l0 x9_1).f0).toList) a1.toList))) else (none)) = some r := by rw [if_neg (show ¬ (false = true) by decide)] at H; exact H
            clear H
            have H := H1
            clear H1
            by_cases c9 : 0 ≤ x9_1
            · rw [if_pos c9] at H
              have c9b0 : decide (0 ≤ x9_1) = true := decide_eq_true c9
              clear c9
              have H' := Aside0.mk H
              clear H
              have p456 : 0 ≤ (x9_1 : Int) := odt
              have q456 : x9_1 < (l0.length : Int) := odt
              obtain ⟨ad456, e456, hx456_0, hx456_1⟩ := at_T84 HR0.out x9_1 p456 q456
              cases e456
              replace hx456_0 := (HB.out.cell (World.block_lt_of_cell? w _ hx456_0)).trans hx456_0
              replace hx456_1 := (HB.out.cell (World.block_lt_of_cell? w _ hx456_1)).trans hx456_1
              replace p456 := eq_true p456
              replace q456 := eq_true q456
              go_wp2
              go_meet
              case rel => exact ⟨_, (!(Op.bytesLess (((rd_T84 l0 x9_1).f0).toList) a1.toList)), vE, H', ⟨by have := HK1.out; omega⟩, ⟨by exact HO_7.out⟩, ⟨bW⟩⟩
            · rw [if_neg c9] at H
              exact absurd H (by simp)
        case rest =>
          clear HC7
          try clear c6b0
          obtain ⟨kq, x27_6, rfl, HA, HJ6, HO_7, HB⟩ := hcut
          cases kq with
          | zero => exact absurd HA.out (by simp [spec_l01Put.j1])
          | succ kj6 =>
            have H := HA.out
            clear HA
            simp only [spec_l01Put.j1] at H
            by_cases c10 : x27_6 = true
            · subst c10
              have H1 : (if x7_1.length < 5864062014805 then ((some (x7_1 ++ [(⟨a1, a2⟩ : S84)] : List (S84))).bind fun y457 => (if 0 ≤ x9_1 then (if x9_1 < (l0.length : Int) then (if ((rd_T84 l0 x9_1).f0).toList = a1.toList then (spec_l01Put.l0 kj6 l0 a1 a2 y457 true (wrap64 (x9_1 + 1))) else (if y457.length < 5864062014805 then (spec_l01Put.l0 kj6 l0 a1 a2 (y457 ++ [(⟨(rd_T84 l0 x9_1).f0, (rd_T84 l0 x9_1).f1⟩ : S84)]) true (wrap64 (x9_1 + 1))) else (none))) else (none)) else (none))) else (none)) = some r := by rw [if_pos rfl] at H; exact H
              clear H
              have H := H1
              clear H1
              by_cases c11 : x7_1.length < 5864062014805
              · rw [if_pos c11] at H
                have LMc11 := Aside0.mk c11
                clear c11
                obtain ⟨y457, hy457⟩ : ∃ y_ : List (S84), y_ = (x7_1 ++ [(⟨a1, a2⟩ : S84)]) := ⟨_, rfl⟩
                replace H : (if 0 ≤ x9_1 then (if x9_1 < (l0.length : Int) then (if ((rd_T84 l0 x9_1).f0).toList = a1.toList then (spec_l01Put.l0 kj6 l0 a1 a2 y457 true (wrap64 (x9_1 + 1))) else (if y457.length < 5864062014805 then (spec_l01Put.l0 kj6 l0 a1 a2 (y457 ++ [(⟨(rd_T84 l0 x9_1).f0, (rd_T84 l0 x9_1).f1⟩ : S84)]) true (wrap64 (x9_1 + 1))) else (none))) else (none)) else (none)) = some r := by (have H2_ := (Option.bind_some _ _).symm.trans H; rw [hy457]; with_reducible exact H2_)
                have Ny457 := Aside0.mk hy457
                clear hy457
                by_cases c12 : 0 ≤ x9_1
                · rw [if_pos c12] at H
                  have c12b0 : decide (0 ≤ x9_1) = true := decide_eq_true c12
                  clear c12
                  by_cases c13 : x9_1 < (l0.length : Int)
                  · rw [if_pos c13] at H
                    have c13b0 : decide (x9_1 < (l0.length : Int)) = true := decide_eq_true c13
                    clear c13
                    by_cases c14 : ((rd_T84 l0 x9_1).f0).toList = a1.toList
                    · rw [if_pos c14] at H
                      have c14b0 : (((rd_T84 l0 x9_1).f0).toList == a1.toList) = true := beq_iff_eq.mpr c14
                      have c14b1 : (((rd_T84 l0 x9_1).f0).toList != a1.toList) = false := bne_eq_false_iff_eq.mpr c14
                      clear c14
                      have H' := Aside0.mk H
                      clear H
                      go_wp2_with (((with_reducible refine gate_builtin (b := .append) (xs := #[.tmp 28, .tmp 32]) rfl ?_); at_builtin; refine Kd.R_append k84 (w0 := w) w.heap.size rfl (.tmp 28) (.tmp 32) 46 84 (.agg #[(.string ⟨#[]⟩), (.int .i64 0)]) 24 rfl Tryz.underlying46 info84 rfl (by decide) (by omega) u7 x7_1 (⟨a1, a2⟩ : S84) [.string a1, .int .i64 a2] (fun _ => True) (fun _ => False) rfl rfl ?aP (fun _ hk => hk.elim) ?aF ?aO ?aB ?aS ?aL ?_; (case aP => exact k84_mkM _ _ _ (⟨a1, a2⟩ : S84)); (case aB => exact bW); (case aF => exact (fun _ _ => trivial)); (case aO => exact (pR HO_7)); (case aS => exact (below_size (w := w) bW)); (case aL => have := LMc11.out; omega); intro v458 w15 ho hb hg hat; rw [← Ny457.out] at ho; have n0_ := Aside0.mk (hb); have n1_ := Aside0.mk (ho); clear HB; clear HO_7; have HB := n0_; have HO459 := n1_; clear n0_ n1_; clear ho hb hg hat; have p460 : 0 ≤ (x9_1 : Int) := odt; have q460 : x9_1 < (l0.length : Int) := odt; obtain ⟨ad460, e460, hx460_0, hx460_1⟩ := at_T84 HR0.out x9_1 p460 q460; cases e460; replace hx460_0 := (HB.out.cell (World.block_lt_of_cell? w _ hx460_0)).trans hx460_0; replace hx460_1 := (HB.out.cell (World.block_lt_of_cell? w _ hx460_1)).trans hx460_1; replace p460 := eq_true p460; replace q460 := eq_true q460))
                      go_roundg kj6
                      case measure => have := HK1.out; have := HJ6.out; omega
                      case rel => exact ⟨(y457), (true), (wrap64 (x9_1 + 1)), vE, vE, H', ⟨by have := HK1.out; have := HJ6.out; omega⟩, ⟨by exact HO459.out⟩, ⟨bW⟩⟩
                    · rw [if_neg c14] at H
                      have c14b0 : (((rd_T84 l0 x9_1).f0).toList == a1.toList) = false := beq_eq_false_iff_ne.mpr c14
                      have c14b1 : (((rd_T84 l0 x9_1).f0).toList != a1.toList) = true := bne_iff_ne.mpr c14
                      by_cases c16 : y457.length < 5864062014805
                      · rw [if_pos c16] at H
                        have LMc16 := Aside0.mk c16
                        clear c16
                        obtain ⟨y462, hy462⟩ : ∃ y_ : List (S84), y_ = (y457 ++ [(⟨(rd_T84 l0 x9_1).f0, (rd_T84 l0 x9_1).f1⟩ : S84)]) := ⟨_, rfl⟩
                        replace H : (spec_l01Put.l0 kj6 l0 a1 a2 y462 true (wrap64 (x9_1 + 1))) = some r := by (rw [hy462]; with_reducible exact H)
                        have Ny462 := Aside0.mk hy462
                        clear hy462
                        have H' := Aside0.mk H
                        clear H
                        go_wp2_with (first | ((with_reducible refine gate_builtin (b := .append) (xs := #[.tmp 28, .tmp 32]) rfl ?_); at_builtin; refine Kd.R_append k84 (w0 := w) w.heap.size rfl (.tmp 28) (.tmp 32) 46 84 (.agg #[(.string ⟨#[]⟩), (.int .i64 0)]) 24 rfl Tryz.underlying46 info84 rfl (by decide) (by omega) u7 x7_1 (⟨a1, a2⟩ : S84) [.string a1, .int .i64 a2] (fun _ => True) (fun _ => False) rfl rfl ?aP (fun _ hk => hk.elim) ?aF ?aO ?aB ?aS ?aL ?_; (case aP => exact k84_mkM _ _ _ (⟨a1, a2⟩ : S84)); (case aB => exact bW); (case aF => exact (fun _ _ => trivial)); (case aO => exact (pR HO_7)); (case aS => exact (below_size (w := w) bW)); (case aL => have := LMc11.out; omega); intro v458 w17 ho hb hg hat; rw [← Ny457.out] at ho; have n0_ := Aside0.mk (hb); have n1_ := Aside0.mk (ho); clear HB; clear HO_7; have HB := n0_; have HO459 := n1_; clear n0_ n1_; clear ho hb hg hat; have p460 : 0 ≤ (x9_1 : Int) := odt; have q460 : x9_1 < (l0.length : Int) := odt; obtain ⟨ad460, e460, hx460_0, hx460_1⟩ := at_T84 HR0.out x9_1 p460 q460; cases e460; replace hx460_0 := (HB.out.cell (World.block_lt_of_cell? w _ hx460_0)).trans hx460_0; replace hx460_1 := (HB.out.cell (World.block_lt_of_cell? w _ hx460_1)).trans hx460_1; replace p460 := eq_true p460; replace q460 := eq_true q460; have p461 : 0 ≤ (x9_1 : Int) := odt; have q461 : x9_1 < (l0.length : Int) := odt; obtain ⟨ad461, e461, hx461_0, hx461_1⟩ := at_T84 HR0.out x9_1 p461 q461; obtain rfl : ad460 = ad461 := (by injection e461); replace hx461_0 := (HB.out.cell (World.block_lt_of_cell? w _ hx461_0)).trans hx461_0; replace hx461_1 := (HB.out.cell (World.block_lt_of_cell? w _ hx461_1)).trans hx461_1; replace p461 := eq_true p461; replace q461 := eq_true q461) | ((with_reducible refine gate_builtin (b := .append) (xs := #[.tmp 41, .tmp 46]) rfl ?_); at_builtin; refine Kd.R_append k84 (w0 := w) w.heap.size rfl (.tmp 41) (.tmp 46) 46 84 (.agg #[(.string ⟨#[]⟩), (.int .i64 0)]) 24 rfl Tryz.underlying46 info84 rfl (by decide) (by omega) v458 y457 (⟨(rd_T84 l0 x9_1).f0, (rd_T84 l0 x9_1).f1⟩ : S84) [.string ((rd_T84 l0 x9_1).f0), .int .i64 ((rd_T84 l0 x9_1).f1)] (fun _ => True) (fun _ => False) rfl rfl ?aP (fun _ hk => hk.elim) ?aF ?aO ?aB ?aS ?aL ?_; (case aP => exact k84_mkM _ _ _ (⟨(rd_T84 l0 x9_1).f0, (rd_T84 l0 x9_1).f1⟩ : S84)); (case aB => exact bW); (case aF => exact (fun _ _ => trivial)); (case aO => exact (pR HO459)); (case aS => exact (below_size (w := w) bW)); (case aL => have := LMc16.out; omega); intro v463 w18 ho hb hg hat; rw [← Ny462.out] at ho; have n0_ := Aside0.mk (hb); have n1_ := Aside0.mk (ho); clear HB; clear HO459; have HB := n0_; have HO464 := n1_; clear n0_ n1_; clear ho hb hg hat))
                        go_roundg kj6
                        case measure => have := HK1.out; have := HJ6.out; omega
                        case rel => exact ⟨(y462), (true), (wrap64 (x9_1 + 1)), vE, vE, H', ⟨by have := HK1.out; have := HJ6.out; omega⟩, ⟨by exact HO464.out⟩, ⟨bW⟩⟩
                      · rw [if_neg c16] at H
                        exact absurd H (by simp)
                  · rw [if_neg c13] at H
                    exact absurd H (by simp)
                · rw [if_neg c12] at H
                  exact absurd H (by simp)
              · rw [if_neg c11] at H
                exact absurd H (by simp)
            · replace c10 := Bool.eq_false_iff.mpr c10
              subst c10
              have H1 : (if 0 ≤ x9_1 then (if x9_1 < (l0.length : Int) then (if ((rd_T84 l0 x9_1).f0).toList = a1.toList then (spec_l01Put.l0 kj6 l0 a1 a2 x7_1 x8_1 (wrap64 (x9_1 + 1))) else (if x7_1.length < 5864062014805 then (spec_l01Put.l0 kj6 l0 a1 a2 (x7_1 ++ [(⟨(rd_T84 l0 x9_1).f0, (rd_T84 l0 x9_1).f1⟩ : S84)]) x8_1 (wrap64 (x9_1 + 1))) else (none))) else (none)) else (none)) = some r := by rw [if_neg (show ¬ (false = true) by decide)] at H; exact H
              clear H
              have H := H1
              clear H1
              by_cases c19 : 0 ≤ x9_1
              · rw [if_pos c19] at H
                have c19b0 : decide (0 ≤ x9_1) = true := decide_eq_true c19
                clear c19
                by_cases c20 : x9_1 < (l0.length : Int)
                · rw [if_pos c20] at H
                  have c20b0 : decide (x9_1 < (l0.length : Int)) = true := decide_eq_true c20
                  clear c20
                  by_cases c21 : ((rd_T84 l0 x9_1).f0).toList = a1.toList
                  · rw [if_pos c21] at H
                    have c21b0 : (((rd_T84 l0 x9_1).f0).toList == a1.toList) = true := beq_iff_eq.mpr c21
                    have c21b1 : (((rd_T84 l0 x9_1).f0).toList != a1.toList) = false := bne_eq_false_iff_eq.mpr c21
                    clear c21
                    have H' := Aside0.mk H
                    clear H
                    have p465 : 0 ≤ (x9_1 : Int) := odt
                    have q465 : x9_1 < (l0.length : Int) := odt
                    obtain ⟨ad465, e465, hx465_0, hx465_1⟩ := at_T84 HR0.out x9_1 p465 q465
                    cases e465
                    replace hx465_0 := (HB.out.cell (World.block_lt_of_cell? w _ hx465_0)).trans hx465_0
                    replace hx465_1 := (HB.out.cell (World.block_lt_of_cell? w _ hx465_1)).trans hx465_1
                    replace p465 := eq_true p465
                    replace q465 := eq_true q465
                    go_wp2
                    go_roundg kj6
                    case measure => have := HK1.out; have := HJ6.out; omega
                    case rel => exact ⟨(x7_1), (x8_1), (wrap64 (x9_1 + 1)), vE, vE, H', ⟨by have := HK1.out; have := HJ6.out; omega⟩, ⟨by exact HO_7.out⟩, ⟨bW⟩⟩
                  · rw [if_neg c21] at H
                    have c21b0 : (((rd_T84 l0 x9_1).f0).toList == a1.toList) = false := beq_eq_false_iff_ne.mpr c21
                    have c21b1 : (((rd_T84 l0 x9_1).f0).toList != a1.toList) = true := bne_iff_ne.mpr c21
                    by_cases c22 : x7_1.length < 5864062014805
                    · rw [if_pos c22] at H
                      have LMc22 := Aside0.mk c22
                      clear c22
                      obtain ⟨y467, hy467⟩ : ∃ y_ : List (S84), y_ = (x7_1 ++ [(⟨(rd_T84 l0 x9_1).f0, (rd_T84 l0 x9_1).f1⟩ : S84)]) := ⟨_, rfl⟩
                      replace H : (spec_l01Put.l0 kj6 l0 a1 a2 y467 x8_1 (wrap64 (x9_1 + 1))) = some r := by (rw [hy467]; with_reducible exact H)
                      have Ny467 := Aside0.mk hy467
                      clear hy467
                      have H' := Aside0.mk H
                      clear H
                      have p465 : 0 ≤ (x9_1 : Int) := odt
                      have q465 : x9_1 < (l0.length : Int) := odt
                      obtain ⟨ad465, e465, hx465_0, hx465_1⟩ := at_T84 HR0.out x9_1 p465 q465
                      cases e465
                      replace hx465_0 := (HB.out.cell (World.block_lt_of_cell? w _ hx465_0)).trans hx465_0
                      replace hx465_1 := (HB.out.cell (World.block_lt_of_cell? w _ hx465_1)).trans hx465_1
                      replace p465 := eq_true p465
                      replace q465 := eq_true q465
                      have p466 : 0 ≤ (x9_1 : Int) := odt
                      have q466 : x9_1 < (l0.length : Int) := odt
                      obtain ⟨ad466, e466, hx466_0, hx466_1⟩ := at_T84 HR0.out x9_1 p466 q466
                      obtain rfl : ad465 = ad466 := (by injection e466)
                      replace hx466_0 := (HB.out.cell (World.block_lt_of_cell? w _ hx466_0)).trans hx466_0
                      replace hx466_1 := (HB.out.cell (World.block_lt_of_cell? w _ hx466_1)).trans hx466_1
                      replace p466 := eq_true p466
                      replace q466 := eq_true q466
                      go_wp2_with (((with_reducible refine gate_builtin (b := .append) (xs := #[.tmp 41, .tmp 46]) rfl ?_); at_builtin; refine Kd.R_append k84 (w0 := w) w.heap.size rfl (.tmp 41) (.tmp 46) 46 84 (.agg #[(.string ⟨#[]⟩), (.int .i64 0)]) 24 rfl Tryz.underlying46 info84 rfl (by decide) (by omega) u7 x7_1 (⟨(rd_T84 l0 x9_1).f0, (rd_T84 l0 x9_1).f1⟩ : S84) [.string ((rd_T84 l0 x9_1).f0), .int .i64 ((rd_T84 l0 x9_1).f1)] (fun _ => True) (fun _ => False) rfl rfl ?aP (fun _ hk => hk.elim) ?aF ?aO ?aB ?aS ?aL ?_; (case aP => exact k84_mkM _ _ _ (⟨(rd_T84 l0 x9_1).f0, (rd_T84 l0 x9_1).f1⟩ : S84)); (case aB => exact bW); (case aF => exact (fun _ _ => trivial)); (case aO => exact (pR HO_7)); (case aS => exact (below_size (w := w) bW)); (case aL => have := LMc22.out; omega); intro v468 w23 ho hb hg hat; rw [← Ny467.out] at ho; have n0_ := Aside0.mk (hb); have n1_ := Aside0.mk (ho); clear HB; clear HO_7; have HB := n0_; have HO469 := n1_; clear n0_ n1_; clear ho hb hg hat))
                      go_roundg kj6
                      case measure => have := HK1.out; have := HJ6.out; omega
                      case rel => exact ⟨(y467), (x8_1), (wrap64 (x9_1 + 1)), vE, vE, H', ⟨by have := HK1.out; have := HJ6.out; omega⟩, ⟨by exact HO469.out⟩, ⟨bW⟩⟩
                    · rw [if_neg c22] at H
                      exact absurd H (by simp)
                · rw [if_neg c20] at H
                  exact absurd H (by simp)
              · rw [if_neg c19] at H
                exact absurd H (by simp)
      · rw [if_neg c6] at H
        have c6b0 : decide (x9_1 < (l0.length : Int)) = false := decide_eq_false c6
        clear c6
        by_cases c24 : x8_1 = true
        · subst c24
          have H1 : (some x7_1) = some r := by rw [if_pos rfl] at H; exact H
          clear H
          have H := H1
          clear H1
          obtain rfl := Option.some.inj H
          go_wp2
          go_ret
          exact ⟨_, by rfl, by exact HO_7.out, bW⟩
        · replace c24 := Bool.eq_false_iff.mpr c24
          subst c24
          have H1 : (if x7_1.length < 5864062014805 then (some (x7_1 ++ [(⟨a1, a2⟩ : S84)])) else (none)) = some r := by rw [if_neg (show ¬ (false = true) by decide)] at H; exact H
          clear H
          have H := H1
          clear H1
          by_cases c25 : x7_1.length < 5864062014805
          · rw [if_pos c25] at H
            have LMc25 := Aside0.mk c25
            clear c25
            obtain ⟨y453, hy453⟩ : ∃ y_ : List (S84), y_ = (x7_1 ++ [(⟨a1, a2⟩ : S84)]) := ⟨_, rfl⟩
            replace H : (some y453) = some r := by (rw [hy453]; with_reducible exact H)
            have Ny453 := Aside0.mk hy453
            clear hy453
            obtain rfl := Option.some.inj H
            go_wp2_with (((with_reducible refine gate_builtin (b := .append) (xs := #[.tmp 50, .tmp 54]) rfl ?_); at_builtin; refine Kd.R_append k84 (w0 := w) w.heap.size rfl (.tmp 50) (.tmp 54) 46 84 (.agg #[(.string ⟨#[]⟩), (.int .i64 0)]) 24 rfl Tryz.underlying46 info84 rfl (by decide) (by omega) u7 x7_1 (⟨a1, a2⟩ : S84) [.string a1, .int .i64 a2] (fun _ => True) (fun _ => False) rfl rfl ?aP (fun _ hk => hk.elim) ?aF ?aO ?aB ?aS ?aL ?_; (case aP => exact k84_mkM _ _ _ (⟨a1, a2⟩ : S84)); (case aB => exact bW); (case aF => exact (fun _ _ => trivial)); (case aO => exact (pR HO_7)); (case aS => exact (below_size (w := w) bW)); (case aL => have := LMc25.out; omega); intro v454 w26 ho hb hg hat; rw [← Ny453.out] at ho; have n0_ := Aside0.mk (hb); have n1_ := Aside0.mk (ho); clear HB; clear HO_7; have HB := n0_; have HO455 := n1_; clear n0_ n1_; clear ho hb hg hat))
            go_ret
            exact ⟨_, by rfl, by exact HO455.out, bW⟩
          · rw [if_neg c25] at H
            exact absurd H (by simp)
end Go.Proofs.YtblejbgkcgajgaaGreat.Q
end

section
namespace Go.Proofs.YtblejbgkcgajgaaGreat.Q
open Go.RowKit Go.Proofs.YtblejbgkcgajgaaGreatW.PrintWords Go.Proofs.YtblejbgkcgajgaaGreatW.PrintLast Go.Proofs.YtblejbgkcgajgaaGreatW.PrintMore
attribute [local go_sem] max2_int min2_int max_two min_two max_three min_three max_four min_four   -- for this text's walks alone
set_option linter.unusedVariables false
set_option linter.unusedSimpArgs false
attribute [local go_sem] bin_leq bin_gtr bin_geq
def spec_l01Apply.l0 : Nat → List (S84) → List (S68) → Int → Option ((List (S84)))
  | 0, _, _, _ => none
  | k + 1, x0, x1, x5 => if x5 < (x1.length : Int) then (if 0 ≤ x5 then (if (rd_T68 x1 x5).f2 = true then ((spec_l01Remove.f k x0 ((rd_T68 x1 x5).f0)).bind fun t478 => (spec_l01Apply.l0 k t478 x1 (wrap64 (x5 + 1)))) else ((spec_l01Put.f k x0 ((rd_T68 x1 x5).f0) ((rd_T68 x1 x5).f1)).bind fun t483 => (spec_l01Apply.l0 k t483 x1 (wrap64 (x5 + 1))))) else (none)) else (some x0)
def spec_l01Apply.f (k : Nat) (l0 : List (S84)) (l1 : List (S68)) : Option ((List (S84))) := (some (([] : List (S84)) : List (S84))).bind fun y470 => (if y470.length + l0.length < 5864062014805 then (spec_l01Apply.l0 k (y470 ++ l0) l1 0) else (none))
def spec_l01Apply.T7 : Bool × List (List Nat × List Nat) := (true, [([], []), ([], []), ([], []), ([1, 2], [1, 2]), ([3], [3]), ([4], [4]), ([], []), ([], []), ([6, 7], [6, 7]), ([8], [8]), ([9], [9]), ([0, 5, 10], [0, 5, 10]), ([11, 11, 0, 1, 2, 3, 4, 5, 6, 7, 8, 9, 10, 11], [0, 11])])
def spec_l01Apply.B7 : List Nat := [0, 0, 0, 6, 14, 30, 0, 0, 192, 448, 960, 2047, 4095]
theorem spec_l01Apply.tab7 : rtab .any (opsOf Tryz.f67 7) = spec_l01Apply.T7 := by kernel_rfl
theorem spec_l01Apply.bits7 : waitsOk spec_l01Apply.T7.2 spec_l01Apply.B7 = true := by kernel_rfl
set_option maxHeartbeats 8000000 in
set_option maxRecDepth 100000 in
theorem spec_l01Apply.calls (k : Nat) (A0 : Option Addr) (c0 : Nat) (l0 : List (S84)) (A1 : Option Addr) (c1 : Nat) (l1 : List (S68)) (r : List (S84)) (w : World) (hr0 : Kd.C k84 w A0 l0.length l0) (hc0 : l0.length ≤ c0) (hr1 : Kd.C k68 w A1 l1.length l1) (hc1 : l1.length ≤ c1) (h : spec_l01Apply.f k l0 l1 = some r) :
    Calls Tryz.prog 67 #[.slice A0 l0.length c0, .slice A1 l1.length c1] w fun e w' => ∃ v0_ : Value, e = .returned (v0_) ∧ Kd.R k84 84 w' w.heap.size (fun _ => True) v0_ r ∧ Below w.heap.size w w' := by
  have HR0 := Aside0.mk hr0
  have HC0 := Aside0.mk hc0
  clear hr0 hc0
  have HR1 := Aside0.mk hr1
  have HC1 := Aside0.mk hc1
  clear hr1 hc1
  have HB := Aside0.mk (Below.refl w.heap.size w)
  have H : ((some (([] : List (S84)) : List (S84))).bind fun y470 => (if y470.length + l0.length < 5864062014805 then (spec_l01Apply.l0 k (y470 ++ l0) l1 0) else (none))) = some r := h
  clear h
  obtain ⟨y470, hy470⟩ : ∃ y_ : List (S84), y_ = (([] : List (S84))) := ⟨_, rfl⟩
  replace H : (if y470.length + l0.length < 5864062014805 then (spec_l01Apply.l0 k (y470 ++ l0) l1 0) else (none)) = some r := by (have H2_ := (Option.bind_some _ _).symm.trans H; rw [hy470]; with_reducible exact H2_)
  have Ny470 := Aside0.mk hy470
  clear hy470
  by_cases c3 : y470.length + l0.length < 5864062014805
  · rw [if_pos c3] at H
    have LMc3 := Aside0.mk c3
    clear c3
    obtain ⟨y473, hy473⟩ : ∃ y_ : List (S84), y_ = (y470 ++ l0) := ⟨_, rfl⟩
    replace H : (spec_l01Apply.l0 k y473 l1 0) = some r := by (rw [hy473]; with_reducible exact H)
    have Ny473 := Aside0.mk hy473
    clear hy473
    have H' := Aside0.mk H
    clear H
    go_enter Tryz.func67, Tryz.ntmps67
    go_wp2_with (first | ((with_reducible refine gate_dst (N := 6) rfl ?_); refine Kd.R_lit k84 _ 84 ?hg (N := 6) ?hd (xs := ([] : List (S84))) (inner := []) (ok := fun _ => True) (okp := fun _ => True) ?hr ?hp (fun _ hk => hk) trivial (Below.refl _ _) (Nat.le_refl _) (by simp) ?_; (case hd => rfl); (case hg => rfl); (case hr => (go_simp; done)); (case hp => exact (Reps.none _ _)); intro v471 w4 ho5 hb hg_ hnew_; clear hg_ hnew_; (rw [← Ny470.out] at ho5); have n0_ := Aside0.mk (Kd.R_lower ho5 (below_size (w := w) bW)); have n1_ := Aside0.mk (below_step (w := w) bW hb); clear HB; have HO472 := n0_; have HB := n1_; clear n0_ n1_; clear hb ho5) | ((with_reducible refine gate_builtin (b := .append) (xs := #[.tmp 6, .tmp 7]) rfl ?_); at_builtin; refine Kd.R_append_rows k84 (w0 := w) w.heap.size rfl (.tmp 6) (.tmp 7) 46 84 (.agg #[(.string ⟨#[]⟩), (.int .i64 0)]) 24 rfl Tryz.underlying46 info84 rfl (by decide) (by omega) v471 y470 l0 _ _ _ (fun _ => True) (fun _ => False) rfl rfl ?aO ?aR (fun _ _ h => h) (fun _ h => h.elim) ?aF ?aB ?aS ?aL ?_; (case aR => repeat (exact (Kd.C_below HR0.out HB.out))); (case aB => exact bW); (case aF => exact (fun _ _ => trivial)); (case aO => exact (pR HO472)); (case aS => exact (below_size (w := w) bW)); (case aL => have := LMc3.out; omega); intro v474 w6 ho hb hg hat; rw [← Ny473.out] at ho; have n0_ := Aside0.mk (hb); have n1_ := Aside0.mk (ho); clear HB; clear HO472; have HB := n0_; have HO475 := n1_; clear n0_ n1_; clear ho hb hg hat))
    go_loopg [0, 5] k (fun kq v0 v5 w' => ∃ (x0_1 : List (S84)) (x5_1 : Int), v5 = .int .i64 x5_1 ∧ Aside0 (spec_l01Apply.l0 kq x0_1 l1 x5_1 = some r) ∧ Aside0 (kq ≤ k) ∧ Aside0 (Kd.R k84 84 w' w.heap.size (fun _ => True) v0 x0_1) ∧ Aside0 (Below w.heap.size w w'))
    case atStart => exact ⟨(y473), (0), vE, H', ⟨Nat.le_refl _⟩, ⟨by exact HO475.out⟩, ⟨bW⟩⟩
    case round =>
      clear H'
      obtain ⟨x0_1, x5_1, rfl, HA, HK1, HO_0, HB⟩ := hrel
      cases gk with
      | zero => exact absurd HA.out (by simp [spec_l01Apply.l0])
      | succ k1 =>
        have H := HA.out
        clear HA
        simp only [spec_l01Apply.l0] at H
        by_cases c7 : x5_1 < (l1.length : Int)
        · rw [if_pos c7] at H
          have c7b0 : decide (x5_1 < (l1.length : Int)) = true := decide_eq_true c7
          clear c7
          by_cases c8 : 0 ≤ x5_1
          · rw [if_pos c8] at H
            have c8b0 : decide (0 ≤ x5_1) = true := decide_eq_true c8
            clear c8
            obtain ⟨bq9, hbq9⟩ : ∃ b_ : Bool, b_ = ((rd_T68 l1 x5_1).f2) := ⟨_, rfl⟩
            replace H : (if bq9 = true then ((spec_l01Remove.f k1 x0_1 ((rd_T68 l1 x5_1).f0)).bind fun t478 => (spec_l01Apply.l0 k1 t478 l1 (wrap64 (x5_1 + 1)))) else ((spec_l01Put.f k1 x0_1 ((rd_T68 l1 x5_1).f0) ((rd_T68 l1 x5_1).f1)).bind fun t483 => (spec_l01Apply.l0 k1 t483 l1 (wrap64 (x5_1 + 1))))) = some r := by rw [← hbq9] at H; exact H
            have Nbq9 := Aside0.mk hbq9
            clear hbq9
            by_cases c10 : bq9 = true
            · subst c10
              have H1 : ((spec_l01Remove.f k1 x0_1 ((rd_T68 l1 x5_1).f0)).bind fun t478 => (spec_l01Apply.l0 k1 t478 l1 (wrap64 (x5_1 + 1)))) = some r := by rw [if_pos rfl] at H; exact H
              clear H
              have H := H1
              clear H1
              replace H := Option.bind_eq_some_iff.mp H
              obtain ⟨t478, A110, H⟩ := H
              replace H : (spec_l01Apply.l0 k1 t478 l1 (wrap64 (x5_1 + 1))) = some r := H
              have A11 := Aside0.mk A110
              clear A110
              have H' := Aside0.mk H
              clear H
              have p476 : 0 ≤ (x5_1 : Int) := odt
              have q476 : x5_1 < (l1.length : Int) := odt
              obtain ⟨ad476, e476, hx476_0, hx476_1, hx476_2⟩ := at_T68 HR1.out x5_1 p476 q476
              (try rw [← Nbq9.out] at hx476_2)
              cases e476
              replace hx476_0 := (HB.out.cell (World.block_lt_of_cell? w _ hx476_0)).trans hx476_0
              replace hx476_1 := (HB.out.cell (World.block_lt_of_cell? w _ hx476_1)).trans hx476_1
              replace hx476_2 := (HB.out.cell (World.block_lt_of_cell? w _ hx476_2)).trans hx476_2
              replace p476 := eq_true p476
              replace q476 := eq_true q476
              have p477 : 0 ≤ (x5_1 : Int) := odt
              have q477 : x5_1 < (l1.length : Int) := odt
              obtain ⟨ad477, e477, hx477_0, hx477_1, hx477_2⟩ := at_T68 HR1.out x5_1 p477 q477
              (try rw [← Nbq9.out] at hx477_2)
              obtain rfl : ad476 = ad477 := (by injection e477)
              replace hx477_0 := (HB.out.cell (World.block_lt_of_cell? w _ hx477_0)).trans hx477_0
              replace hx477_1 := (HB.out.cell (World.block_lt_of_cell? w _ hx477_1)).trans hx477_1
              replace hx477_2 := (HB.out.cell (World.block_lt_of_cell? w _ hx477_2)).trans hx477_2
              replace p477 := eq_true p477
              replace q477 := eq_true q477
              obtain ⟨Ao12, co12, eo12⟩ := Kd.R_slice HO_0.out
              subst eo12
              go_wp2_with (((with_reducible refine gate_callee (f := 95) rfl ?_); refine goesL_ (some 26) rfl rfl Tryz.func95 (by kernel_rfl) rfl #[.slice Ao12 x0_1.length co12, .string ((rd_T68 l1 x5_1).f0)] rfl gA ?_; (with_reducible refine (spec_l01Remove.calls k1 _ _ x0_1 ((rd_T68 l1 x5_1).f0) t478 _ ?side1 ?side2 A11.out).mono ?_); (case side1 => repeat (exact (Kd.R_reads' HO_0.out).2.2)); (case side2 => exact (Kd.R_reads' HO_0.out).2.1); rintro e w13 ⟨v479, rfl, ho0, hb⟩; refine ⟨_, rfl, ?_⟩; have n0_ := Aside0.mk (Kd.R_elder' (pR HO_0) (Kd.R_base ho0) hb); have n1_ := Aside0.mk (Kd.R_lower (Kd.R_new' ho0 (Kd.R_lt (pR HO_0))) (below_size (w := w) bW)); have n2_ := Aside0.mk (below_step (w := w) bW hb); clear HO_0; clear HB; have HO_0 := n0_; have HO480 := n1_; have HB := n2_; clear n0_ n1_ n2_; (try clear hb); (try clear ho0)))
              go_roundg k1
              case measure => have := HK1.out; omega
              case rel => exact ⟨(t478), (wrap64 (x5_1 + 1)), vE, H', ⟨by have := HK1.out; omega⟩, ⟨by exact Kd.R_mono HO480.out (fun _ hk => trivial)⟩, ⟨bW⟩⟩
            · replace c10 := Bool.eq_false_iff.mpr c10
              subst c10
              have H1 : ((spec_l01Put.f k1 x0_1 ((rd_T68 l1 x5_1).f0) ((rd_T68 l1 x5_1).f1)).bind fun t483 => (spec_l01Apply.l0 k1 t483 l1 (wrap64 (x5_1 + 1)))) = some r := by rw [if_neg (show ¬ (false = true) by decide)] at H; exact H
              clear H
              have H := H1
              clear H1
              replace H := Option.bind_eq_some_iff.mp H
              obtain ⟨t483, A140, H⟩ := H
              replace H : (spec_l01Apply.l0 k1 t483 l1 (wrap64 (x5_1 + 1))) = some r := H
              have A14 := Aside0.mk A140
              clear A140
              have H' := Aside0.mk H
              clear H
              have p476 : 0 ≤ (x5_1 : Int) := odt
              have q476 : x5_1 < (l1.length : Int) := odt
              obtain ⟨ad476, e476, hx476_0, hx476_1, hx476_2⟩ := at_T68 HR1.out x5_1 p476 q476
              (try rw [← Nbq9.out] at hx476_2)
              cases e476
              replace hx476_0 := (HB.out.cell (World.block_lt_of_cell? w _ hx476_0)).trans hx476_0
              replace hx476_1 := (HB.out.cell (World.block_lt_of_cell? w _ hx476_1)).trans hx476_1
              replace hx476_2 := (HB.out.cell (World.block_lt_of_cell? w _ hx476_2)).trans hx476_2
              replace p476 := eq_true p476
              replace q476 := eq_true q476
              try go_wp2
              have n0_ := Aside0.mk (Kd.R_drew HO_0.out)
              have n1_ := Aside0.mk (below_drew1 HB.out)
              clear HO_0
              clear HB
              have HO_0 := n0_
              have HB := n1_
              clear n0_ n1_
              have p481 : 0 ≤ (x5_1 : Int) := odt
              have q481 : x5_1 < (l1.length : Int) := odt
              obtain ⟨ad481, e481, hx481_0, hx481_1, hx481_2⟩ := at_T68 HR1.out x5_1 p481 q481
              have hw481_2 := hx481_2
              have hw481_1 := hx481_1
              have hw481_0 := hx481_0
              (try rw [← Nbq9.out] at hw481_2)
              (try rw [← Nbq9.out] at hx481_2)
              obtain rfl : ad476 = ad481 := (by injection e481)
              replace hx481_0 := (HB.out.cell (World.block_lt_of_cell? w _ hx481_0)).trans hx481_0
              replace hx481_1 := (HB.out.cell (World.block_lt_of_cell? w _ hx481_1)).trans hx481_1
              replace hx481_2 := (HB.out.cell (World.block_lt_of_cell? w _ hx481_2)).trans hx481_2
              replace p481 := eq_true p481
              replace q481 := eq_true q481
              have p482 : 0 ≤ (x5_1 : Int) := odt
              have q482 : x5_1 < (l1.length : Int) := odt
              obtain ⟨ad482, e482, hx482_0, hx482_1, hx482_2⟩ := at_T68 HR1.out x5_1 p482 q482
              have hw482_2 := hx482_2
              have hw482_1 := hx482_1
              have hw482_0 := hx482_0
              (try rw [← Nbq9.out] at hw482_2)
              (try rw [← Nbq9.out] at hx482_2)
              obtain rfl : ad476 = ad482 := (by injection e482)
              replace hx482_0 := (HB.out.cell (World.block_lt_of_cell? w _ hx482_0)).trans hx482_0
              replace hx482_1 := (HB.out.cell (World.block_lt_of_cell? w _ hx482_1)).trans hx482_1
              replace hx482_2 := (HB.out.cell (World.block_lt_of_cell? w _ hx482_2)).trans hx482_2
              replace p482 := eq_true p482
              replace q482 := eq_true q482
              obtain ⟨Ao16, co16, eo16⟩ := Kd.R_slice HO_0.out
              (subst eo16)
              refine start_ (n := 13) (S := fun w' => w'.cell? (ad476.add ((x5_1).toNat * 3)) = some (.string ((rd_T68 l1 x5_1).f0)) ∧ w'.cell? ⟨(ad476.add ((x5_1).toNat * 3)).block, (ad476.add ((x5_1).toNat * 3)).off + 1, none⟩ = some (.int .i64 ((rd_T68 l1 x5_1).f1)) ∧ w'.cell? ⟨(ad476.add ((x5_1).toNat * 3)).block, (ad476.add ((x5_1).toNat * 3)).off + 2, none⟩ = some (.bool (false)) ∧ w'.cell? (ad476.add ((x5_1).toNat * 3)) = some (.string ((rd_T68 l1 x5_1).f0)) ∧ w'.cell? ⟨(ad476.add ((x5_1).toNat * 3)).block, (ad476.add ((x5_1).toNat * 3)).off + 1, none⟩ = some (.int .i64 ((rd_T68 l1 x5_1).f1)) ∧ w'.cell? ⟨(ad476.add ((x5_1).toNat * 3)).block, (ad476.add ((x5_1).toNat * 3)).off + 2, none⟩ = some (.bool (false))) (ds := []) (bs 13 0) (by kernel_rfl) rfl rfl ⟨((HB.out.cell (World.block_lt_of_cell? w _ hw481_0)).trans hw481_0), ((HB.out.cell (World.block_lt_of_cell? w _ hw481_1)).trans hw481_1), ((HB.out.cell (World.block_lt_of_cell? w _ hw481_2)).trans hw481_2), ((HB.out.cell (World.block_lt_of_cell? w _ hw482_0)).trans hw482_0), ((HB.out.cell (World.block_lt_of_cell? w _ hw482_1)).trans hw482_1), ((HB.out.cell (World.block_lt_of_cell? w _ hw482_2)).trans hw482_2)⟩ (fun hHeld => ?_); refine with_tabW spec_l01Apply.tab7 spec_l01Apply.bits7 (fun HT_ HW_ => ?_)
              generalize wr.drew = w15 at HO_0 HB hx481_0 hx481_1 hx481_2 hx482_0 hx482_1 hx482_2 hHeld ⊢
              refine pz 0 27 (bs 13 1) HT_ ?_
              refine pz 1 28 (bs 13 3) HT_ ?_
              refine pz 2 29 (bs 13 7) HT_ ?_
              refine pz 3 30 (bs 13 15) HT_ ?_
              refine pz 4 31 (bs 13 31) HT_ ?_
              refine pz 6 33 (bs 13 95) HT_ ?_
              refine pz 7 34 (bs 13 223) HT_ ?_
              refine pz 8 35 (bs 13 479) HT_ ?_
              refine pz 9 36 (bs 13 991) HT_ ?_
              refine tz 5 32 (bs 13 1023) HT_ HW_ hHeld ?_
              refine tz 10 37 (bs 13 2047) HT_ HW_ hHeld ?_
              refine one_ (i := 11) (N := some 38) (bs 13 4095) rfl rfl (one_of HT_.out (by kernel_rfl)) (by decide) (fun K hK => ?_)
              refine goes_ Tryz.func96 (by kernel_rfl) rfl #[.slice Ao16 x0_1.length co16, .string ((rd_T68 l1 x5_1).f0), .int .i64 ((rd_T68 l1 x5_1).f1)] (by rfl) rfl rfl gA ?_
              with_reducible refine (spec_l01Put.calls k1 _ _ x0_1 ((rd_T68 l1 x5_1).f0) ((rd_T68 l1 x5_1).f1) t483 _ ?side1 ?side2 A14.out).mono ?_
              (case side1 => repeat (exact (Kd.R_reads' HO_0.out).2.2))
              (case side2 => exact (Kd.R_reads' HO_0.out).2.1)
              rintro e w17 ⟨v484, rfl, ho0, hb⟩
              refine ⟨_, rfl, ?_⟩
              have n0_ := Aside0.mk (Kd.R_elder' (pR HO_0) (Kd.R_base ho0) hb)
              have n1_ := Aside0.mk (Kd.R_lower (Kd.R_new' ho0 (Kd.R_lt (pR HO_0))) (below_size (w := w) bW))
              have n2_ := Aside0.mk (below_step (w := w) bW hb)
              clear HO_0
              clear HB
              have HO_0 := n0_
              have HO485 := n1_
              have HB := n2_
              clear n0_ n1_ n2_
              (try clear hb)
              (try clear ho0)
              refine hK.out _ _ ⟨((HB.out.cell (World.block_lt_of_cell? w _ hw481_0)).trans hw481_0), ((HB.out.cell (World.block_lt_of_cell? w _ hw481_1)).trans hw481_1), ((HB.out.cell (World.block_lt_of_cell? w _ hw481_2)).trans hw481_2), ((HB.out.cell (World.block_lt_of_cell? w _ hw482_0)).trans hw482_0), ((HB.out.cell (World.block_lt_of_cell? w _ hw482_1)).trans hw482_1), ((HB.out.cell (World.block_lt_of_cell? w _ hw482_2)).trans hw482_2)⟩ (fun hHeld => ?_)
              clear hK K
              refine norm_ (a' := ?_) ?_ ?_
              rotate_left
              · show Act.put _ (some 38) _ = _
                simp only [Act.put, List.setIfInBounds_toArray, List.set_cons_zero, List.set_cons_succ, i64_w, i32_w]
                rfl
              refine pz 12 0 (bs 13 8191) HT_ ?_
              refine done_ (done_of HT_.out (by kernel_rfl)) ?_
              try go_wp2
              go_roundg k1
              case measure => have := HK1.out; omega
              case rel => exact ⟨(t483), (wrap64 (x5_1 + 1)), vE, H', ⟨by have := HK1.out; omega⟩, ⟨by exact Kd.R_mono HO485.out (fun _ hk => trivial)⟩, ⟨bW⟩⟩
          · rw [if_neg c8] at H
            exact absurd H (by simp)
        · rw [if_neg c7] at H
          have c7b0 : decide (x5_1 < (l1.length : Int)) = false := decide_eq_false c7
          clear c7
          obtain rfl := Option.some.inj H
          go_wp2
          go_ret
          exact ⟨_, by rfl, by exact HO_0.out, bW⟩
  · rw [if_neg c3] at H
    exact absurd H (by simp)
end Go.Proofs.YtblejbgkcgajgaaGreat.Q
end

section
namespace Go.Proofs.YtblejbgkcgajgaaGreat.Q
open Go.RowKit Go.Proofs.YtblejbgkcgajgaaGreatW.PrintWords Go.Proofs.YtblejbgkcgajgaaGreatW.PrintLast Go.Proofs.YtblejbgkcgajgaaGreatW.PrintMore
attribute [local go_sem] max2_int min2_int max_two min_two max_three min_three max_four min_four   -- for this text's walks alone
set_option linter.unusedVariables false
set_option linter.unusedSimpArgs false
attribute [local go_sem] bin_leq bin_gtr bin_geq
attribute [local go_sem high] eqA68
def spec_l02Merge.l0 : Nat → List (S84) → List (S68) → List (S68) → List ByteArray → List (S68) → Int → Option ((List (S84)) × List ByteArray)
  | 0, _, _, _, _, _, _ => none
  | k + 1, x1, x8, x9, x10, x11, x12 => if x12 < (x9.length : Int) then (if 0 ≤ x12 then ((spec_l02Find.f k x8 ((rd_T68 x9 x12).f0)).bind fun bt502 => (if bt502.2.2.2 = true then (if (!(bt502.1.toList == (((rd_T68 x9 x12).f0).toList)) || (!(bt502.2.1 == ((rd_T68 x9 x12).f1)) || (!(bt502.2.2.1 == ((rd_T68 x9 x12).f2))))) = true then (if x10.length < 8796093022208 then (spec_l02Merge.l0 k x1 x8 x9 (x10 ++ [(rd_T68 x9 x12).f0]) x11 (wrap64 (x12 + 1))) else (none)) else (spec_l02Merge.l0 k x1 x8 x9 x10 x11 (wrap64 (x12 + 1)))) else (if x11.length < 4398046511104 then (spec_l02Merge.l0 k x1 x8 x9 x10 (x11 ++ [(⟨(rd_T68 x9 x12).f0, (rd_T68 x9 x12).f1, (rd_T68 x9 x12).f2⟩ : S68)]) (wrap64 (x12 + 1))) else (none)))) else (none)) else ((spec_l01Apply.f k x1 x11).bind fun t498 => (some (t498, x10)))
def spec_l02Merge.f (k : Nat) (l0 : List (S84)) (l1 : List (S84)) (l2 : List (S84)) : Option ((List (S84)) × List ByteArray) := (spec_l01Diff.f k l0 l1).bind fun t486 => ((spec_l01Diff.f k l0 l2).bind fun t489 => (spec_l02Merge.l0 k l1 t486 t489 (([] : List ByteArray)) (([] : List (S68))) 0))
set_option maxHeartbeats 8000000 in
set_option maxRecDepth 100000 in
theorem spec_l02Merge.calls (k : Nat) (A0 : Option Addr) (c0 : Nat) (l0 : List (S84)) (A1 : Option Addr) (c1 : Nat) (l1 : List (S84)) (A2 : Option Addr) (c2 : Nat) (l2 : List (S84)) (r1 : List (S84)) (r2 : List ByteArray) (w : World) (hr0 : Kd.C k84 w A0 l0.length l0) (hc0 : l0.length ≤ c0) (hr1 : Kd.C k84 w A1 l1.length l1) (hc1 : l1.length ≤ c1) (hr2 : Kd.C k84 w A2 l2.length l2) (hc2 : l2.length ≤ c2) (h : spec_l02Merge.f k l0 l1 l2 = some (r1, r2)) :
    Calls Tryz.prog 41 #[.slice A0 l0.length c0, .slice A1 l1.length c1, .slice A2 l2.length c2] w fun e w' => ∃ v0_ v1_ : Value, e = .returned (.tuple #[v0_, v1_]) ∧ Kd.R k84 84 w' w.heap.size (fun _ => True) v0_ r1 ∧ Kd.R Kd.string 9 w' w.heap.size (fun _ => True) v1_ r2 ∧ Below w.heap.size w w' := by
  have hu68 := Tryz.underlying68
  have HR0 := Aside0.mk hr0
  have HC0 := Aside0.mk hc0
  clear hr0 hc0
  have HR1 := Aside0.mk hr1
  have HC1 := Aside0.mk hc1
  clear hr1 hc1
  have HR2 := Aside0.mk hr2
  have HC2 := Aside0.mk hc2
  clear hr2 hc2
  have HB := Aside0.mk (Below.refl w.heap.size w)
  have H : ((spec_l01Diff.f k l0 l1).bind fun t486 => ((spec_l01Diff.f k l0 l2).bind fun t489 => (spec_l02Merge.l0 k l1 t486 t489 (([] : List ByteArray)) (([] : List (S68))) 0))) = some (r1, r2) := h
  clear h
  replace H := Option.bind_eq_some_iff.mp H
  obtain ⟨t486, A40, H⟩ := H
  replace H : ((spec_l01Diff.f k l0 l2).bind fun t489 => (spec_l02Merge.l0 k l1 t486 t489 (([] : List ByteArray)) (([] : List (S68))) 0)) = some (r1, r2) := H
  have A4 := Aside0.mk A40
  clear A40
  replace H := Option.bind_eq_some_iff.mp H
  obtain ⟨t489, A50, H⟩ := H
  replace H : (spec_l02Merge.l0 k l1 t486 t489 (([] : List ByteArray)) (([] : List (S68))) 0) = some (r1, r2) := H
  have A5 := Aside0.mk A50
  clear A50
  obtain ⟨y492, hy492⟩ : ∃ y_ : List ByteArray, y_ = (([] : List ByteArray)) := ⟨_, rfl⟩
  replace H : (spec_l02Merge.l0 k l1 t486 t489 y492 (([] : List (S68))) 0) = some (r1, r2) := by (rw [hy492]; with_reducible exact H)
  have Ny492 := Aside0.mk hy492
  clear hy492
  obtain ⟨y495, hy495⟩ : ∃ y_ : List (S68), y_ = (([] : List (S68))) := ⟨_, rfl⟩
  replace H : (spec_l02Merge.l0 k l1 t486 t489 y492 y495 0) = some (r1, r2) := by (rw [hy495]; with_reducible exact H)
  have Ny495 := Aside0.mk hy495
  clear hy495
  have H' := Aside0.mk H
  clear H
  go_enter Tryz.func41, Tryz.ntmps41
  go_wp2_with (first | (go_at_call 31; (with_reducible refine (spec_l01Diff.calls k _ _ l0 _ _ l1 t486 _ ?side1 ?side2 ?side3 ?side4 A4.out).mono ?_); (case side1 => exact cN HR0); (case side2 => exact HC0.out); (case side3 => exact cN HR1); (case side4 => exact HC1.out); rintro e w6 ⟨v487, rfl, ho0, hb⟩; have n0_ := Aside0.mk (Kd.R_lower ho0 (below_size (w := w) bW)); have n1_ := Aside0.mk (below_step (w := w) bW hb); clear HB; have HO488 := n0_; have HB := n1_; clear n0_ n1_; (try clear hb); (try clear ho0)) | (go_at_call 31; (with_reducible refine (spec_l01Diff.calls k _ _ l0 _ _ l2 t489 _ ?side1 ?side2 ?side3 ?side4 A5.out).mono ?_); (case side1 => exact cB HR0); (case side2 => exact HC0.out); (case side3 => exact cB HR2); (case side4 => exact HC2.out); rintro e w7 ⟨v490, rfl, ho0, hb⟩; have n0_ := Aside0.mk (Kd.R_elder' (pR HO488) (Kd.R_base ho0) hb); have n1_ := Aside0.mk (Kd.R_lower (Kd.R_new' ho0 (Kd.R_lt (pR HO488))) (below_size (w := w) bW)); have n2_ := Aside0.mk (below_step (w := w) bW hb); clear HO488; clear HB; have HO488 := n0_; have HO491 := n1_; have HB := n2_; clear n0_ n1_ n2_; (try clear hb); (try clear ho0)) | ((with_reducible refine gate_dst (N := 21) rfl ?_); refine Kd.R_lit Kd.string _ 9 ?hg (N := 21) ?hd (xs := ([] : List ByteArray)) (inner := []) (ok := fun _ => True) (okp := fun _ => True) ?hr ?hp (fun _ hk => hk) trivial (Below.refl _ _) (Nat.le_refl _) (by simp) ?_; (case hd => rfl); (case hg => rfl); (case hr => (go_simp; done)); (case hp => exact (Reps.none _ _)); intro v493 w8 ho9 hb hg_ hnew_; clear hg_ hnew_; (rw [← Ny492.out] at ho9); have n0_ := Aside0.mk (Kd.R_below (pR HO488) hb); have n1_ := Aside0.mk (Kd.R_below (pR HO491) hb); have n2_ := Aside0.mk (Kd.R_lower ho9 (below_size (w := w) bW)); have n3_ := Aside0.mk (below_step (w := w) bW hb); clear HO488; clear HO491; clear HB; have HO488 := n0_; have HO491 := n1_; have HO494 := n2_; have HB := n3_; clear n0_ n1_ n2_ n3_; clear hb ho9) | ((with_reducible refine gate_dst (N := 22) rfl ?_); refine Kd.R_lit k68 _ 68 ?hg (N := 22) ?hd (xs := ([] : List (S68))) (inner := []) (ok := fun _ => True) (okp := fun _ => True) ?hr ?hp (fun _ hk => hk) trivial (Below.refl _ _) (Nat.le_refl _) (by simp) ?_; (case hd => rfl); (case hg => rfl); (case hr => (go_simp; done)); (case hp => exact (Reps.none _ _)); intro v496 w10 ho11 hb hg_ hnew_; clear hg_ hnew_; (rw [← Ny495.out] at ho11); have n0_ := Aside0.mk (Kd.R_elder' (pR HO488) (Kd.R_base ho11) hb); have n1_ := Aside0.mk (Kd.R_elder' (pR HO491) (Kd.R_base ho11) hb); have n2_ := Aside0.mk (Kd.R_below (pR HO494) hb); have n3_ := Aside0.mk (Kd.R_lower (Kd.R_new' (Kd.R_new' ho11 (Kd.R_lt (pR HO488))) (Kd.R_lt (pR HO491))) (below_size (w := w) bW)); have n4_ := Aside0.mk (below_step (w := w) bW hb); clear HO488; clear HO491; clear HO494; clear HB; have HO488 := n0_; have HO491 := n1_; have HO494 := n2_; have HO497 := n3_; have HB := n4_; clear n0_ n1_ n2_ n3_ n4_; clear hb ho11))
  go_loopg [10, 11, 12] k (fun kq v10 v11 v12 w' => ∃ (x10_1 : List ByteArray) (x11_1 : List (S68)) (x12_1 : Int), v12 = .int .i64 x12_1 ∧ Aside0 (spec_l02Merge.l0 kq l1 t486 t489 x10_1 x11_1 x12_1 = some (r1, r2)) ∧ Aside0 (kq ≤ k) ∧ Aside0 (Kd.R k68 68 w' w.heap.size (fun k_ => some k_ ≠ (v490 : Value).ownBlock ∧ some k_ ≠ (v11 : Value).ownBlock) v487 t486) ∧ Aside0 (Kd.R k68 68 w' w.heap.size (fun k_ => some k_ ≠ (v487 : Value).ownBlock ∧ some k_ ≠ (v11 : Value).ownBlock) v490 t489) ∧ Aside0 (Kd.R Kd.string 9 w' w.heap.size (fun _ => True) v10 x10_1) ∧ Aside0 (Kd.R k68 68 w' w.heap.size (fun k_ => some k_ ≠ (v487 : Value).ownBlock ∧ some k_ ≠ (v490 : Value).ownBlock) v11 x11_1) ∧ Aside0 (Below w.heap.size w w'))
  case atStart => exact ⟨(y492), (y495), (0), vE, H', ⟨Nat.le_refl _⟩, ⟨by exact Kd.R_mono HO488.out (fun _ hk => ⟨hk.1.2, hk.2⟩)⟩, ⟨by exact Kd.R_mono HO491.out (fun _ hk => ⟨hk.1.2, hk.2⟩)⟩, ⟨by exact HO494.out⟩, ⟨by exact Kd.R_mono HO497.out (fun _ hk => ⟨hk.1.2, hk.2⟩)⟩, ⟨bW⟩⟩
  case round =>
    clear H'
    obtain ⟨x10_1, x11_1, x12_1, rfl, HA, HK1, HO_8, HO_9, HO_10, HO_11, HB⟩ := hrel
    cases gk with
    | zero => exact absurd HA.out (by simp [spec_l02Merge.l0])
    | succ k1 =>
      have H := HA.out
      clear HA
      simp only [spec_l02Merge.l0] at H
      by_cases c12 : x12_1 < (t489.length : Int)
      · rw [if_pos c12] at H
        have c12b0 : decide (x12_1 < (t489.length : Int)) = true := decide_eq_true c12
        clear c12
        by_cases c13 : 0 ≤ x12_1
        · rw [if_pos c13] at H
          have c13b0 : decide (0 ≤ x12_1) = true := decide_eq_true c13
          clear c13
          replace H := Option.bind_eq_some_iff.mp H
          obtain ⟨⟨t502, t503, t504, t505⟩, A140, H⟩ := H
          replace H : (if t505 = true then (if (!(t502.toList == (((rd_T68 t489 x12_1).f0).toList)) || (!(t503 == ((rd_T68 t489 x12_1).f1)) || (!(t504 == ((rd_T68 t489 x12_1).f2))))) = true then (if x10_1.length < 8796093022208 then (spec_l02Merge.l0 k1 l1 t486 t489 (x10_1 ++ [(rd_T68 t489 x12_1).f0]) x11_1 (wrap64 (x12_1 + 1))) else (none)) else (spec_l02Merge.l0 k1 l1 t486 t489 x10_1 x11_1 (wrap64 (x12_1 + 1)))) else (if x11_1.length < 4398046511104 then (spec_l02Merge.l0 k1 l1 t486 t489 x10_1 (x11_1 ++ [(⟨(rd_T68 t489 x12_1).f0, (rd_T68 t489 x12_1).f1, (rd_T68 t489 x12_1).f2⟩ : S68)]) (wrap64 (x12_1 + 1))) else (none))) = some (r1, r2) := H
          have A14 := Aside0.mk A140
          clear A140
          by_cases c15 : t505 = true
          · subst c15
            have H1 : (if (!(t502.toList == (((rd_T68 t489 x12_1).f0).toList)) || (!(t503 == ((rd_T68 t489 x12_1).f1)) || (!(t504 == ((rd_T68 t489 x12_1).f2))))) = true then (if x10_1.length < 8796093022208 then (spec_l02Merge.l0 k1 l1 t486 t489 (x10_1 ++ [(rd_T68 t489 x12_1).f0]) x11_1 (wrap64 (x12_1 + 1))) else (none)) else (spec_l02Merge.l0 k1 l1 t486 t489 x10_1 x11_1 (wrap64 (x12_1 + 1)))) = some (r1, r2) := by rw [if_pos rfl] at H; exact H
            clear H
            have H := H1
            clear H1
            by_cases c16 : (!(t502.toList == (((rd_T68 t489 x12_1).f0).toList)) || (!(t503 == ((rd_T68 t489 x12_1).f1)) || (!(t504 == ((rd_T68 t489 x12_1).f2))))) = true
            · rw [if_pos c16] at H
              have c16b0 : (!(t502.toList == (((rd_T68 t489 x12_1).f0).toList)) || (!(t503 == ((rd_T68 t489 x12_1).f1)) || (!(t504 == ((rd_T68 t489 x12_1).f2))))) = true := c16
              clear c16
              by_cases c17 : x10_1.length < 8796093022208
              · rw [if_pos c17] at H
                have LMc17 := Aside0.mk c17
                clear c17
                obtain ⟨y509, hy509⟩ : ∃ y_ : List ByteArray, y_ = (x10_1 ++ [(rd_T68 t489 x12_1).f0]) := ⟨_, rfl⟩
                replace H : (spec_l02Merge.l0 k1 l1 t486 t489 y509 x11_1 (wrap64 (x12_1 + 1))) = some (r1, r2) := by (rw [hy509]; with_reducible exact H)
                have Ny509 := Aside0.mk hy509
                clear hy509
                have H' := Aside0.mk H
                clear H
                obtain ⟨Ao18, co18, eo18⟩ := Kd.R_slice HO_9.out
                subst eo18
                have p501 : 0 ≤ (x12_1 : Int) := odt
                have q501 : x12_1 < (t489.length : Int) := odt
                obtain ⟨ad501, e501, hx501_0, hx501_1, hx501_2⟩ := at_T68 (Kd.R_reads' HO_9.out).2.2 x12_1 p501 q501
                cases e501
                replace p501 := eq_true p501
                replace q501 := eq_true q501
                obtain ⟨Ao19, co19, eo19⟩ := Kd.R_slice HO_8.out
                subst eo19
                go_wp2_with (first | (go_at_call 66; (with_reducible refine (spec_l02Find.calls k1 _ _ t486 ((rd_T68 t489 x12_1).f0) t502 t503 t504 true _ ?side1 ?side2 A14.out).mono ?_); (case side1 => repeat (exact (Kd.R_reads' HO_8.out).2.2)); (case side2 => exact (Kd.R_reads' HO_8.out).2.1); rintro e w20 ⟨rfl, hb⟩; have n0_ := Aside0.mk (Kd.R_below (pR HO_8) hb); have n1_ := Aside0.mk (Kd.R_below (pR HO_9) hb); have n2_ := Aside0.mk (Kd.R_below (pR HO_10) hb); have n3_ := Aside0.mk (Kd.R_below (pR HO_11) hb); have n4_ := Aside0.mk (below_step (w := w) bW hb); clear HO_8; clear HO_9; clear HO_10; clear HO_11; clear HB; have HO_8 := n0_; have HO_9 := n1_; have HO_10 := n2_; have HO_11 := n3_; have HB := n4_; clear n0_ n1_ n2_ n3_ n4_; (try clear hb)) | ((with_reducible refine gate_dst (N := 13) rfl ?_); refine bE (N := 13) (cs := #[.string (⟨#[]⟩ : ByteArray), .int .i64 0, .bool false]) (t := 68) ?_; intro gb506 hg w21 hbox hb; have n0_ := Aside0.mk (Kd.R_below (Kd.R_elderB (pR HO_8) gb506 (Nat.le_of_eq hg.symm)) hb); have n1_ := Aside0.mk (Kd.R_below (Kd.R_elderB (pR HO_9) gb506 (Nat.le_of_eq hg.symm)) hb); have n2_ := Aside0.mk (Kd.R_below (pR HO_10) hb); have n3_ := Aside0.mk (Kd.R_below (Kd.R_elderB (pR HO_11) gb506 (Nat.le_of_eq hg.symm)) hb); have n4_ := Aside0.mk (below_step (w := w) bW hb); have n5_ := Aside0.mk (hbox); have n6_ := Aside0.mk (gS (w := w) hg); have n7_ := n6_; clear HO_8; clear HO_9; clear HO_10; clear HO_11; clear HB; have HO_8 := n0_; have HO_9 := n1_; have HO_10 := n2_; have HO_11 := n3_; have HB := n4_; have BK506 := n5_; have GW506 := n6_; have GE506 := n7_; clear n0_ n1_ n2_ n3_ n4_ n5_ n6_ n7_; clear hb hbox hg; obtain ⟨hcz22_0, hcz22_1, hcz22_2⟩ := cz3 BK506; obtain ⟨hfz22_0, hfz22_1, hfz22_2⟩ := fz3 BK506; have p507 : 0 ≤ (x12_1 : Int) := odt; have q507 : x12_1 < (t489.length : Int) := odt; obtain ⟨ad507, e507, hx507_0, hx507_1, hx507_2⟩ := at_T68 (Kd.R_reads' HO_9.out).2.2 x12_1 p507 q507; obtain rfl : ad501 = ad507 := (by injection e507); have hn507_0 : ad501.block ≠ gb506 := Kd.own_blk (by exact Kd.R_away HO_9.out (fun _ hk => hk.2)); have hn507_1 : ad501.block ≠ gb506 := Kd.own_blk (by exact Kd.R_away HO_9.out (fun _ hk => hk.2)); have hn507_2 : ad501.block ≠ gb506 := Kd.own_blk (by exact Kd.R_away HO_9.out (fun _ hk => hk.2)); replace hx507_0 := (cell_far (p := ⟨gb506, 0, none⟩) (by (rw [add_block]; exact hn507_0)) (.string t502)).trans hx507_0; replace hx507_1 := (cell_far (p := ⟨gb506, 0, none⟩) (by (rw [add_block]; exact hn507_0)) (.string t502)).trans hx507_1; replace hx507_2 := (cell_far (p := ⟨gb506, 0, none⟩) (by (rw [add_block]; exact hn507_0)) (.string t502)).trans hx507_2; replace hx507_0 := (cell_far (p := ⟨gb506, 1, none⟩) (by (rw [add_block]; exact hn507_1)) (.int .i64 t503)).trans hx507_0; replace hx507_1 := (cell_far (p := ⟨gb506, 1, none⟩) (by (rw [add_block]; exact hn507_1)) (.int .i64 t503)).trans hx507_1; replace hx507_2 := (cell_far (p := ⟨gb506, 1, none⟩) (by (rw [add_block]; exact hn507_1)) (.int .i64 t503)).trans hx507_2; replace hx507_0 := (cell_far (p := ⟨gb506, 2, none⟩) (by (rw [add_block]; exact hn507_2)) (.bool t504)).trans hx507_0; replace hx507_1 := (cell_far (p := ⟨gb506, 2, none⟩) (by (rw [add_block]; exact hn507_2)) (.bool t504)).trans hx507_1; replace hx507_2 := (cell_far (p := ⟨gb506, 2, none⟩) (by (rw [add_block]; exact hn507_2)) (.bool t504)).trans hx507_2; (try have hy507_0 := fun (n_ : Nat) => (show (((((w21.drewN n_).setCell ⟨gb506, 0, none⟩ (.string t502)).setCell ⟨gb506, 1, none⟩ (.int .i64 t503)).setCell ⟨gb506, 2, none⟩ (.bool t504))).cell? _ = some _ from hx507_0)); (try have hy507_1 := fun (n_ : Nat) => (show (((((w21.drewN n_).setCell ⟨gb506, 0, none⟩ (.string t502)).setCell ⟨gb506, 1, none⟩ (.int .i64 t503)).setCell ⟨gb506, 2, none⟩ (.bool t504))).cell? _ = some _ from hx507_1)); (try have hy507_2 := fun (n_ : Nat) => (show (((((w21.drewN n_).setCell ⟨gb506, 0, none⟩ (.string t502)).setCell ⟨gb506, 1, none⟩ (.int .i64 t503)).setCell ⟨gb506, 2, none⟩ (.bool t504))).cell? _ = some _ from hx507_2)); clear hn507_0; clear hn507_1; clear hn507_2; replace p507 := eq_true p507; replace q507 := eq_true q507; have p508 : 0 ≤ (x12_1 : Int) := odt; have q508 : x12_1 < (t489.length : Int) := odt; obtain ⟨ad508, e508, hx508_0, hx508_1, hx508_2⟩ := at_T68 (Kd.R_reads' HO_9.out).2.2 x12_1 p508 q508; obtain rfl : ad501 = ad508 := (by injection e508); have hn508_0 : ad501.block ≠ gb506 := Kd.own_blk (by exact Kd.R_away HO_9.out (fun _ hk => hk.2)); have hn508_1 : ad501.block ≠ gb506 := Kd.own_blk (by exact Kd.R_away HO_9.out (fun _ hk => hk.2)); have hn508_2 : ad501.block ≠ gb506 := Kd.own_blk (by exact Kd.R_away HO_9.out (fun _ hk => hk.2)); replace hx508_0 := (cell_far (p := ⟨gb506, 0, none⟩) (by (rw [add_block]; exact hn508_0)) (.string t502)).trans hx508_0; replace hx508_1 := (cell_far (p := ⟨gb506, 0, none⟩) (by (rw [add_block]; exact hn508_0)) (.string t502)).trans hx508_1; replace hx508_2 := (cell_far (p := ⟨gb506, 0, none⟩) (by (rw [add_block]; exact hn508_0)) (.string t502)).trans hx508_2; replace hx508_0 := (cell_far (p := ⟨gb506, 1, none⟩) (by (rw [add_block]; exact hn508_1)) (.int .i64 t503)).trans hx508_0; replace hx508_1 := (cell_far (p := ⟨gb506, 1, none⟩) (by (rw [add_block]; exact hn508_1)) (.int .i64 t503)).trans hx508_1; replace hx508_2 := (cell_far (p := ⟨gb506, 1, none⟩) (by (rw [add_block]; exact hn508_1)) (.int .i64 t503)).trans hx508_2; replace hx508_0 := (cell_far (p := ⟨gb506, 2, none⟩) (by (rw [add_block]; exact hn508_2)) (.bool t504)).trans hx508_0; replace hx508_1 := (cell_far (p := ⟨gb506, 2, none⟩) (by (rw [add_block]; exact hn508_2)) (.bool t504)).trans hx508_1; replace hx508_2 := (cell_far (p := ⟨gb506, 2, none⟩) (by (rw [add_block]; exact hn508_2)) (.bool t504)).trans hx508_2; (try have hy508_0 := fun (n_ : Nat) => (show (((((w21.drewN n_).setCell ⟨gb506, 0, none⟩ (.string t502)).setCell ⟨gb506, 1, none⟩ (.int .i64 t503)).setCell ⟨gb506, 2, none⟩ (.bool t504))).cell? _ = some _ from hx508_0)); (try have hy508_1 := fun (n_ : Nat) => (show (((((w21.drewN n_).setCell ⟨gb506, 0, none⟩ (.string t502)).setCell ⟨gb506, 1, none⟩ (.int .i64 t503)).setCell ⟨gb506, 2, none⟩ (.bool t504))).cell? _ = some _ from hx508_1)); (try have hy508_2 := fun (n_ : Nat) => (show (((((w21.drewN n_).setCell ⟨gb506, 0, none⟩ (.string t502)).setCell ⟨gb506, 1, none⟩ (.int .i64 t503)).setCell ⟨gb506, 2, none⟩ (.bool t504))).cell? _ = some _ from hx508_2)); clear hn508_0; clear hn508_1; clear hn508_2; replace p508 := eq_true p508; replace q508 := eq_true q508))
                repeat (go_quiet (fail); try go_wp2_with (((with_reducible refine gate_builtin (b := .append) (xs := #[.tmp 54, .tmp 60]) rfl ?_); at_builtin; refine Kd.R_append Kd.string (w0 := w) w.heap.size rfl (.tmp 54) (.tmp 60) 47 9 (.string ⟨#[]⟩) 16 rfl Tryz.underlying47 info9 rfl (by decide) (by omega) u10 x10_1 ((rd_T68 t489 x12_1).f0) [.string ((rd_T68 t489 x12_1).f0)] (fun _ => True) (fun _ => False) rfl (by (go_simp; done)) ?aP (fun _ hk => hk.elim) ?aF ?aO ?aB ?aS ?aL ?_; (case aP => exact rfl); (case aB => exact bW); (case aF => exact (fun _ _ => trivial)); (case aO => exact (by (with_reducible repeat (apply Kd.R_drewN)); exact Kd.R_mono (Kd.R_far (p := ⟨gb506, 2, none⟩) (Kd.R_far (p := ⟨gb506, 1, none⟩) (Kd.R_far (p := ⟨gb506, 0, none⟩) (Kd.R_types HO_10.out BK506.out (by decide)) (fun _ hk => hk.2) (.string t502)) (fun _ hk => hk.2) (.int .i64 t503)) (fun _ hk => hk.2) (.bool t504)) (fun _ hk => trivial))); (case aS => exact (below_size (w := w) bW)); (case aL => have := LMc17.out; omega); intro v510 w23 ho hb hg hat; rw [← Ny509.out] at ho; have n0_ := Aside0.mk (Kd.R_over' (by (with_reducible repeat (apply Kd.R_drewN)); exact (Kd.R_mono (Kd.R_far (p := ⟨gb506, 2, none⟩) (Kd.R_far (p := ⟨gb506, 1, none⟩) (Kd.R_far (p := ⟨gb506, 0, none⟩) (Kd.R_mono HO_8.out (fun k_ hk => (⟨hk, hk.2⟩ : _ ∧ k_ ≠ gb506))) (fun _ hk => hk.2) (.string t502)) (fun _ hk => hk.2) (.int .i64 t503)) (fun _ hk => hk.2) (.bool t504)) (fun _ h_ => h_.1))) (Kd.R_typed (by (with_reducible repeat (apply Kd.R_drewN)); exact (Kd.R_mono (Kd.R_far (p := ⟨gb506, 2, none⟩) (Kd.R_far (p := ⟨gb506, 1, none⟩) (Kd.R_far (p := ⟨gb506, 0, none⟩) (Kd.R_types HO_10.out BK506.out (by decide)) (fun _ hk => hk.2) (.string t502)) (fun _ hk => hk.2) (.int .i64 t503)) (fun _ hk => hk.2) (.bool t504)) (fun _ h_ => h_.1)))) (by decide) hg); have n1_ := Aside0.mk (Kd.R_over' (by (with_reducible repeat (apply Kd.R_drewN)); exact (Kd.R_mono (Kd.R_far (p := ⟨gb506, 2, none⟩) (Kd.R_far (p := ⟨gb506, 1, none⟩) (Kd.R_far (p := ⟨gb506, 0, none⟩) (Kd.R_mono HO_9.out (fun k_ hk => (⟨hk, hk.2⟩ : _ ∧ k_ ≠ gb506))) (fun _ hk => hk.2) (.string t502)) (fun _ hk => hk.2) (.int .i64 t503)) (fun _ hk => hk.2) (.bool t504)) (fun _ h_ => h_.1))) (Kd.R_typed (by (with_reducible repeat (apply Kd.R_drewN)); exact (Kd.R_mono (Kd.R_far (p := ⟨gb506, 2, none⟩) (Kd.R_far (p := ⟨gb506, 1, none⟩) (Kd.R_far (p := ⟨gb506, 0, none⟩) (Kd.R_types HO_10.out BK506.out (by decide)) (fun _ hk => hk.2) (.string t502)) (fun _ hk => hk.2) (.int .i64 t503)) (fun _ hk => hk.2) (.bool t504)) (fun _ h_ => h_.1)))) (by decide) hg); have n2_ := Aside0.mk (Kd.R_over' (by (with_reducible repeat (apply Kd.R_drewN)); exact (Kd.R_mono (Kd.R_far (p := ⟨gb506, 2, none⟩) (Kd.R_far (p := ⟨gb506, 1, none⟩) (Kd.R_far (p := ⟨gb506, 0, none⟩) (Kd.R_mono HO_11.out (fun k_ hk => (⟨hk, hk.2⟩ : _ ∧ k_ ≠ gb506))) (fun _ hk => hk.2) (.string t502)) (fun _ hk => hk.2) (.int .i64 t503)) (fun _ hk => hk.2) (.bool t504)) (fun _ h_ => h_.1))) (Kd.R_typed (by (with_reducible repeat (apply Kd.R_drewN)); exact (Kd.R_mono (Kd.R_far (p := ⟨gb506, 2, none⟩) (Kd.R_far (p := ⟨gb506, 1, none⟩) (Kd.R_far (p := ⟨gb506, 0, none⟩) (Kd.R_types HO_10.out BK506.out (by decide)) (fun _ hk => hk.2) (.string t502)) (fun _ hk => hk.2) (.int .i64 t503)) (fun _ hk => hk.2) (.bool t504)) (fun _ h_ => h_.1)))) (by decide) hg); have n3_ := Aside0.mk (blk_grown (g := gb506) (o := .cells #[.string t502, .int .i64 t503, .bool t504] 68 (0, 0)) (by (with_reducible repeat (refine blk_drewN ?_ _)); refine blk_put (cs := #[.string t502, .int .i64 t503, .bool false]) ?_ 2 _ rfl; refine blk_put (cs := #[.string t502, .int .i64 0, .bool false]) ?_ 1 _ rfl; refine blk_put (cs := #[.string (⟨#[]⟩ : ByteArray), .int .i64 0, .bool false]) ?_ 0 _ rfl; exact BK506.out) hg (Kd.R_ne HO_10.out BK506.out (by decide))); have n4_ := Aside0.mk (hb); have n5_ := Aside0.mk (ho); clear HO_8; clear HO_9; clear HO_11; clear BK506; clear HB; clear HO_10; have HO_8 := n0_; have HO_9 := n1_; have HO_11 := n2_; have BK506 := n3_; have HB := n4_; have HO511 := n5_; clear n0_ n1_ n2_ n3_ n4_ n5_; clear ho hb hg hat)))
                go_roundg k1
                case measure => have := HK1.out; omega
                case rel => exact ⟨(y509), (x11_1), (wrap64 (x12_1 + 1)), vE, H', ⟨by have := HK1.out; omega⟩, ⟨by exact Kd.R_mono HO_8.out (fun _ hk => ⟨hk.1.1, hk.1.2⟩)⟩, ⟨by exact Kd.R_mono HO_9.out (fun _ hk => ⟨hk.1.1, hk.1.2⟩)⟩, ⟨by exact HO511.out⟩, ⟨by exact Kd.R_mono HO_11.out (fun _ hk => ⟨hk.1.1, hk.1.2⟩)⟩, ⟨bW⟩⟩
              · rw [if_neg c17] at H
                exact absurd H (by simp)
            · rw [if_neg c16] at H
              have c16b0 : (!(t502.toList == (((rd_T68 t489 x12_1).f0).toList)) || (!(t503 == ((rd_T68 t489 x12_1).f1)) || (!(t504 == ((rd_T68 t489 x12_1).f2))))) = false := by simpa using c16
              clear c16
              have H' := Aside0.mk H
              clear H
              obtain ⟨Ao24, co24, eo24⟩ := Kd.R_slice HO_9.out
              subst eo24
              have p501 : 0 ≤ (x12_1 : Int) := odt
              have q501 : x12_1 < (t489.length : Int) := odt
              obtain ⟨ad501, e501, hx501_0, hx501_1, hx501_2⟩ := at_T68 (Kd.R_reads' HO_9.out).2.2 x12_1 p501 q501
              cases e501
              replace p501 := eq_true p501
              replace q501 := eq_true q501
              obtain ⟨Ao25, co25, eo25⟩ := Kd.R_slice HO_8.out
              subst eo25
              go_wp2_with (first | (go_at_call 66; (with_reducible refine (spec_l02Find.calls k1 _ _ t486 ((rd_T68 t489 x12_1).f0) t502 t503 t504 true _ ?side1 ?side2 A14.out).mono ?_); (case side1 => repeat (exact (Kd.R_reads' HO_8.out).2.2)); (case side2 => exact (Kd.R_reads' HO_8.out).2.1); rintro e w26 ⟨rfl, hb⟩; have n0_ := Aside0.mk (Kd.R_below (pR HO_8) hb); have n1_ := Aside0.mk (Kd.R_below (pR HO_9) hb); have n2_ := Aside0.mk (Kd.R_below (pR HO_10) hb); have n3_ := Aside0.mk (Kd.R_below (pR HO_11) hb); have n4_ := Aside0.mk (below_step (w := w) bW hb); clear HO_8; clear HO_9; clear HO_10; clear HO_11; clear HB; have HO_8 := n0_; have HO_9 := n1_; have HO_10 := n2_; have HO_11 := n3_; have HB := n4_; clear n0_ n1_ n2_ n3_ n4_; (try clear hb)) | ((with_reducible refine gate_dst (N := 13) rfl ?_); refine bE (N := 13) (cs := #[.string (⟨#[]⟩ : ByteArray), .int .i64 0, .bool false]) (t := 68) ?_; intro gb506 hg w27 hbox hb; have n0_ := Aside0.mk (Kd.R_below (Kd.R_elderB (pR HO_8) gb506 (Nat.le_of_eq hg.symm)) hb); have n1_ := Aside0.mk (Kd.R_below (Kd.R_elderB (pR HO_9) gb506 (Nat.le_of_eq hg.symm)) hb); have n2_ := Aside0.mk (Kd.R_below (pR HO_10) hb); have n3_ := Aside0.mk (Kd.R_below (Kd.R_elderB (pR HO_11) gb506 (Nat.le_of_eq hg.symm)) hb); have n4_ := Aside0.mk (below_step (w := w) bW hb); have n5_ := Aside0.mk (hbox); have n6_ := Aside0.mk (gS (w := w) hg); have n7_ := n6_; clear HO_8; clear HO_9; clear HO_10; clear HO_11; clear HB; have HO_8 := n0_; have HO_9 := n1_; have HO_10 := n2_; have HO_11 := n3_; have HB := n4_; have BK506 := n5_; have GW506 := n6_; have GE506 := n7_; clear n0_ n1_ n2_ n3_ n4_ n5_ n6_ n7_; clear hb hbox hg; obtain ⟨hcz28_0, hcz28_1, hcz28_2⟩ := cz3 BK506; obtain ⟨hfz28_0, hfz28_1, hfz28_2⟩ := fz3 BK506; have p507 : 0 ≤ (x12_1 : Int) := odt; have q507 : x12_1 < (t489.length : Int) := odt; obtain ⟨ad507, e507, hx507_0, hx507_1, hx507_2⟩ := at_T68 (Kd.R_reads' HO_9.out).2.2 x12_1 p507 q507; obtain rfl : ad501 = ad507 := (by injection e507); have hn507_0 : ad501.block ≠ gb506 := Kd.own_blk (by exact Kd.R_away HO_9.out (fun _ hk => hk.2)); have hn507_1 : ad501.block ≠ gb506 := Kd.own_blk (by exact Kd.R_away HO_9.out (fun _ hk => hk.2)); have hn507_2 : ad501.block ≠ gb506 := Kd.own_blk (by exact Kd.R_away HO_9.out (fun _ hk => hk.2)); replace hx507_0 := (cell_far (p := ⟨gb506, 0, none⟩) (by (rw [add_block]; exact hn507_0)) (.string t502)).trans hx507_0; replace hx507_1 := (cell_far (p := ⟨gb506, 0, none⟩) (by (rw [add_block]; exact hn507_0)) (.string t502)).trans hx507_1; replace hx507_2 := (cell_far (p := ⟨gb506, 0, none⟩) (by (rw [add_block]; exact hn507_0)) (.string t502)).trans hx507_2; replace hx507_0 := (cell_far (p := ⟨gb506, 1, none⟩) (by (rw [add_block]; exact hn507_1)) (.int .i64 t503)).trans hx507_0; replace hx507_1 := (cell_far (p := ⟨gb506, 1, none⟩) (by (rw [add_block]; exact hn507_1)) (.int .i64 t503)).trans hx507_1; replace hx507_2 := (cell_far (p := ⟨gb506, 1, none⟩) (by (rw [add_block]; exact hn507_1)) (.int .i64 t503)).trans hx507_2; replace hx507_0 := (cell_far (p := ⟨gb506, 2, none⟩) (by (rw [add_block]; exact hn507_2)) (.bool t504)).trans hx507_0; replace hx507_1 := (cell_far (p := ⟨gb506, 2, none⟩) (by (rw [add_block]; exact hn507_2)) (.bool t504)).trans hx507_1; replace hx507_2 := (cell_far (p := ⟨gb506, 2, none⟩) (by (rw [add_block]; exact hn507_2)) (.bool t504)).trans hx507_2; (try have hy507_0 := fun (n_ : Nat) => (show (((((w27.drewN n_).setCell ⟨gb506, 0, none⟩ (.string t502)).setCell ⟨gb506, 1, none⟩ (.int .i64 t503)).setCell ⟨gb506, 2, none⟩ (.bool t504))).cell? _ = some _ from hx507_0)); (try have hy507_1 := fun (n_ : Nat) => (show (((((w27.drewN n_).setCell ⟨gb506, 0, none⟩ (.string t502)).setCell ⟨gb506, 1, none⟩ (.int .i64 t503)).setCell ⟨gb506, 2, none⟩ (.bool t504))).cell? _ = some _ from hx507_1)); (try have hy507_2 := fun (n_ : Nat) => (show (((((w27.drewN n_).setCell ⟨gb506, 0, none⟩ (.string t502)).setCell ⟨gb506, 1, none⟩ (.int .i64 t503)).setCell ⟨gb506, 2, none⟩ (.bool t504))).cell? _ = some _ from hx507_2)); clear hn507_0; clear hn507_1; clear hn507_2; replace p507 := eq_true p507; replace q507 := eq_true q507))
              repeat (go_quiet (fail); try go_wp2_with (fail))
              go_roundg k1
              case measure => have := HK1.out; omega
              case rel => exact ⟨(x10_1), (x11_1), (wrap64 (x12_1 + 1)), vE, H', ⟨by have := HK1.out; omega⟩, ⟨by (with_reducible repeat (apply Kd.R_drewN)); exact Kd.R_mono (Kd.R_far (p := ⟨gb506, 2, none⟩) (Kd.R_far (p := ⟨gb506, 1, none⟩) (Kd.R_far (p := ⟨gb506, 0, none⟩) (Kd.R_mono HO_8.out (fun k_ hk => (⟨hk, hk.2⟩ : _ ∧ k_ ≠ gb506))) (fun _ hk => hk.2) (.string t502)) (fun _ hk => hk.2) (.int .i64 t503)) (fun _ hk => hk.2) (.bool t504)) (fun _ hk => ⟨hk.1.1.1, hk.1.1.2⟩)⟩, ⟨by (with_reducible repeat (apply Kd.R_drewN)); exact Kd.R_mono (Kd.R_far (p := ⟨gb506, 2, none⟩) (Kd.R_far (p := ⟨gb506, 1, none⟩) (Kd.R_far (p := ⟨gb506, 0, none⟩) (Kd.R_mono HO_9.out (fun k_ hk => (⟨hk, hk.2⟩ : _ ∧ k_ ≠ gb506))) (fun _ hk => hk.2) (.string t502)) (fun _ hk => hk.2) (.int .i64 t503)) (fun _ hk => hk.2) (.bool t504)) (fun _ hk => ⟨hk.1.1.1, hk.1.1.2⟩)⟩, ⟨by (with_reducible repeat (apply Kd.R_drewN)); exact Kd.R_mono (Kd.R_far (p := ⟨gb506, 2, none⟩) (Kd.R_far (p := ⟨gb506, 1, none⟩) (Kd.R_far (p := ⟨gb506, 0, none⟩) (Kd.R_types HO_10.out BK506.out (by decide)) (fun _ hk => hk.2) (.string t502)) (fun _ hk => hk.2) (.int .i64 t503)) (fun _ hk => hk.2) (.bool t504)) (fun _ hk => trivial)⟩, ⟨by (with_reducible repeat (apply Kd.R_drewN)); exact Kd.R_mono (Kd.R_far (p := ⟨gb506, 2, none⟩) (Kd.R_far (p := ⟨gb506, 1, none⟩) (Kd.R_far (p := ⟨gb506, 0, none⟩) (Kd.R_mono HO_11.out (fun k_ hk => (⟨hk, hk.2⟩ : _ ∧ k_ ≠ gb506))) (fun _ hk => hk.2) (.string t502)) (fun _ hk => hk.2) (.int .i64 t503)) (fun _ hk => hk.2) (.bool t504)) (fun _ hk => ⟨hk.1.1.1, hk.1.1.2⟩)⟩, ⟨bW⟩⟩
          · replace c15 := Bool.eq_false_iff.mpr c15
            subst c15
            have H1 : (if x11_1.length < 4398046511104 then (spec_l02Merge.l0 k1 l1 t486 t489 x10_1 (x11_1 ++ [(⟨(rd_T68 t489 x12_1).f0, (rd_T68 t489 x12_1).f1, (rd_T68 t489 x12_1).f2⟩ : S68)]) (wrap64 (x12_1 + 1))) else (none)) = some (r1, r2) := by rw [if_neg (show ¬ (false = true) by decide)] at H; exact H
            clear H
            have H := H1
            clear H1
            by_cases c29 : x11_1.length < 4398046511104
            · rw [if_pos c29] at H
              have LMc29 := Aside0.mk c29
              clear c29
              obtain ⟨y513, hy513⟩ : ∃ y_ : List (S68), y_ = (x11_1 ++ [(⟨(rd_T68 t489 x12_1).f0, (rd_T68 t489 x12_1).f1, (rd_T68 t489 x12_1).f2⟩ : S68)]) := ⟨_, rfl⟩
              replace H : (spec_l02Merge.l0 k1 l1 t486 t489 x10_1 y513 (wrap64 (x12_1 + 1))) = some (r1, r2) := by (rw [hy513]; with_reducible exact H)
              have Ny513 := Aside0.mk hy513
              clear hy513
              have H' := Aside0.mk H
              clear H
              obtain ⟨Ao30, co30, eo30⟩ := Kd.R_slice HO_9.out
              subst eo30
              have p501 : 0 ≤ (x12_1 : Int) := odt
              have q501 : x12_1 < (t489.length : Int) := odt
              obtain ⟨ad501, e501, hx501_0, hx501_1, hx501_2⟩ := at_T68 (Kd.R_reads' HO_9.out).2.2 x12_1 p501 q501
              cases e501
              replace p501 := eq_true p501
              replace q501 := eq_true q501
              obtain ⟨Ao31, co31, eo31⟩ := Kd.R_slice HO_8.out
              subst eo31
              go_wp2_with (first | (go_at_call 66; (with_reducible refine (spec_l02Find.calls k1 _ _ t486 ((rd_T68 t489 x12_1).f0) t502 t503 t504 false _ ?side1 ?side2 A14.out).mono ?_); (case side1 => repeat (exact (Kd.R_reads' HO_8.out).2.2)); (case side2 => exact (Kd.R_reads' HO_8.out).2.1); rintro e w32 ⟨rfl, hb⟩; have n0_ := Aside0.mk (Kd.R_below (pR HO_8) hb); have n1_ := Aside0.mk (Kd.R_below (pR HO_9) hb); have n2_ := Aside0.mk (Kd.R_below (pR HO_10) hb); have n3_ := Aside0.mk (Kd.R_below (pR HO_11) hb); have n4_ := Aside0.mk (below_step (w := w) bW hb); clear HO_8; clear HO_9; clear HO_10; clear HO_11; clear HB; have HO_8 := n0_; have HO_9 := n1_; have HO_10 := n2_; have HO_11 := n3_; have HB := n4_; clear n0_ n1_ n2_ n3_ n4_; (try clear hb)) | ((with_reducible refine gate_dst (N := 13) rfl ?_); refine bE (N := 13) (cs := #[.string (⟨#[]⟩ : ByteArray), .int .i64 0, .bool false]) (t := 68) ?_; intro gb506 hg w33 hbox hb; have n0_ := Aside0.mk (Kd.R_below (Kd.R_elderB (pR HO_8) gb506 (Nat.le_of_eq hg.symm)) hb); have n1_ := Aside0.mk (Kd.R_below (Kd.R_elderB (pR HO_9) gb506 (Nat.le_of_eq hg.symm)) hb); have n2_ := Aside0.mk (Kd.R_below (pR HO_10) hb); have n3_ := Aside0.mk (Kd.R_below (Kd.R_elderB (pR HO_11) gb506 (Nat.le_of_eq hg.symm)) hb); have n4_ := Aside0.mk (below_step (w := w) bW hb); have n5_ := Aside0.mk (hbox); have n6_ := Aside0.mk (gS (w := w) hg); have n7_ := n6_; clear HO_8; clear HO_9; clear HO_10; clear HO_11; clear HB; have HO_8 := n0_; have HO_9 := n1_; have HO_10 := n2_; have HO_11 := n3_; have HB := n4_; have BK506 := n5_; have GW506 := n6_; have GE506 := n7_; clear n0_ n1_ n2_ n3_ n4_ n5_ n6_ n7_; clear hb hbox hg; obtain ⟨hcz34_0, hcz34_1, hcz34_2⟩ := cz3 BK506; obtain ⟨hfz34_0, hfz34_1, hfz34_2⟩ := fz3 BK506; have p512 : 0 ≤ (x12_1 : Int) := odt; have q512 : x12_1 < (t489.length : Int) := odt; obtain ⟨ad512, e512, hx512_0, hx512_1, hx512_2⟩ := at_T68 (Kd.R_reads' HO_9.out).2.2 x12_1 p512 q512; obtain rfl : ad501 = ad512 := (by injection e512); have hn512_0 : ad501.block ≠ gb506 := Kd.own_blk (by exact Kd.R_away HO_9.out (fun _ hk => hk.2)); have hn512_1 : ad501.block ≠ gb506 := Kd.own_blk (by exact Kd.R_away HO_9.out (fun _ hk => hk.2)); have hn512_2 : ad501.block ≠ gb506 := Kd.own_blk (by exact Kd.R_away HO_9.out (fun _ hk => hk.2)); replace hx512_0 := (cell_far (p := ⟨gb506, 0, none⟩) (by (rw [add_block]; exact hn512_0)) (.string t502)).trans hx512_0; replace hx512_1 := (cell_far (p := ⟨gb506, 0, none⟩) (by (rw [add_block]; exact hn512_0)) (.string t502)).trans hx512_1; replace hx512_2 := (cell_far (p := ⟨gb506, 0, none⟩) (by (rw [add_block]; exact hn512_0)) (.string t502)).trans hx512_2; replace hx512_0 := (cell_far (p := ⟨gb506, 1, none⟩) (by (rw [add_block]; exact hn512_1)) (.int .i64 t503)).trans hx512_0; replace hx512_1 := (cell_far (p := ⟨gb506, 1, none⟩) (by (rw [add_block]; exact hn512_1)) (.int .i64 t503)).trans hx512_1; replace hx512_2 := (cell_far (p := ⟨gb506, 1, none⟩) (by (rw [add_block]; exact hn512_1)) (.int .i64 t503)).trans hx512_2; replace hx512_0 := (cell_far (p := ⟨gb506, 2, none⟩) (by (rw [add_block]; exact hn512_2)) (.bool t504)).trans hx512_0; replace hx512_1 := (cell_far (p := ⟨gb506, 2, none⟩) (by (rw [add_block]; exact hn512_2)) (.bool t504)).trans hx512_1; replace hx512_2 := (cell_far (p := ⟨gb506, 2, none⟩) (by (rw [add_block]; exact hn512_2)) (.bool t504)).trans hx512_2; (try have hy512_0 := fun (n_ : Nat) => (show (((((w33.drewN n_).setCell ⟨gb506, 0, none⟩ (.string t502)).setCell ⟨gb506, 1, none⟩ (.int .i64 t503)).setCell ⟨gb506, 2, none⟩ (.bool t504))).cell? _ = some _ from hx512_0)); (try have hy512_1 := fun (n_ : Nat) => (show (((((w33.drewN n_).setCell ⟨gb506, 0, none⟩ (.string t502)).setCell ⟨gb506, 1, none⟩ (.int .i64 t503)).setCell ⟨gb506, 2, none⟩ (.bool t504))).cell? _ = some _ from hx512_1)); (try have hy512_2 := fun (n_ : Nat) => (show (((((w33.drewN n_).setCell ⟨gb506, 0, none⟩ (.string t502)).setCell ⟨gb506, 1, none⟩ (.int .i64 t503)).setCell ⟨gb506, 2, none⟩ (.bool t504))).cell? _ = some _ from hx512_2)); clear hn512_0; clear hn512_1; clear hn512_2; replace p512 := eq_true p512; replace q512 := eq_true q512) | ((with_reducible refine gate_builtin (b := .append) (xs := #[.tmp 41, .tmp 46]) rfl ?_); at_builtin; refine Kd.R_append k68 (w0 := w) w.heap.size rfl (.tmp 41) (.tmp 46) 30 68 (.agg #[(.string ⟨#[]⟩), (.int .i64 0), (.bool false)]) 32 rfl Tryz.underlying30 info68 rfl (by decide) (by omega) u11 x11_1 (⟨(rd_T68 t489 x12_1).f0, (rd_T68 t489 x12_1).f1, (rd_T68 t489 x12_1).f2⟩ : S68) [.string ((rd_T68 t489 x12_1).f0), .int .i64 ((rd_T68 t489 x12_1).f1), .bool ((rd_T68 t489 x12_1).f2)] (fun k_ => some k_ ≠ (.slice Ao31 t486.length co31 : Value).ownBlock ∧ some k_ ≠ (.slice (some ad501) t489.length co30 : Value).ownBlock ∧ k_ ≠ gb506) (fun _ => False) rfl (by (go_simp; done)) ?aP (fun _ hk => hk.elim) ?aF ?aO ?aB ?aS ?aL ?_; (case aP => exact k68_mkM _ _ _ (⟨(rd_T68 t489 x12_1).f0, (rd_T68 t489 x12_1).f1, (rd_T68 t489 x12_1).f2⟩ : S68)); (case aB => exact bW); (case aF => exact (fun k_ hk => ⟨Kd.fresh' (Kd.R_lt (by exact (Kd.R_mono (Kd.R_far (p := ⟨gb506, 2, none⟩) (Kd.R_far (p := ⟨gb506, 1, none⟩) (Kd.R_far (p := ⟨gb506, 0, none⟩) (Kd.R_mono HO_8.out (fun k_ hk => (⟨hk, hk.2⟩ : _ ∧ k_ ≠ gb506))) (fun _ hk => hk.2) (.string t502)) (fun _ hk => hk.2) (.int .i64 t503)) (fun _ hk => hk.2) (.bool t504)) (fun _ h_ => h_.1)))) k_ hk, Kd.fresh' (Kd.R_lt (by exact (Kd.R_mono (Kd.R_far (p := ⟨gb506, 2, none⟩) (Kd.R_far (p := ⟨gb506, 1, none⟩) (Kd.R_far (p := ⟨gb506, 0, none⟩) (Kd.R_mono HO_9.out (fun k_ hk => (⟨hk, hk.2⟩ : _ ∧ k_ ≠ gb506))) (fun _ hk => hk.2) (.string t502)) (fun _ hk => hk.2) (.int .i64 t503)) (fun _ hk => hk.2) (.bool t504)) (fun _ h_ => h_.1)))) k_ hk, Kd.freshB (g := gb506) (o := .cells #[.string t502, .int .i64 t503, .bool t504] 68 (0, 0)) (by refine blk_put (cs := #[.string t502, .int .i64 t503, .bool false]) ?_ 2 _ rfl; refine blk_put (cs := #[.string t502, .int .i64 0, .bool false]) ?_ 1 _ rfl; refine blk_put (cs := #[.string (⟨#[]⟩ : ByteArray), .int .i64 0, .bool false]) ?_ 0 _ rfl; exact BK506.out) k_ hk⟩)); (case aO => exact (by exact Kd.R_mono (Kd.R_far (p := ⟨gb506, 2, none⟩) (Kd.R_far (p := ⟨gb506, 1, none⟩) (Kd.R_far (p := ⟨gb506, 0, none⟩) (Kd.R_mono HO_11.out (fun k_ hk => (⟨hk, hk.2⟩ : _ ∧ k_ ≠ gb506))) (fun _ hk => hk.2) (.string t502)) (fun _ hk => hk.2) (.int .i64 t503)) (fun _ hk => hk.2) (.bool t504)) (fun _ hk => ⟨hk.1.1.1, ⟨hk.1.1.2, hk.1.2⟩⟩))); (case aS => exact (below_size (w := w) bW)); (case aL => have := LMc29.out; omega); intro v514 w35 ho hb hg hat; rw [← Ny513.out] at ho; have n0_ := Aside0.mk (Kd.R_after (ok := (fun k_ => some k_ ≠ (.slice (some ad501) t489.length co30 : Value).ownBlock ∧ k_ ≠ gb506)) (by exact Kd.R_mono (Kd.R_far (p := ⟨gb506, 2, none⟩) (Kd.R_far (p := ⟨gb506, 1, none⟩) (Kd.R_far (p := ⟨gb506, 0, none⟩) (Kd.R_mono HO_8.out (fun k_ hk => (⟨hk, hk.2⟩ : _ ∧ k_ ≠ gb506))) (fun _ hk => hk.2) (.string t502)) (fun _ hk => hk.2) (.int .i64 t503)) (fun _ hk => hk.2) (.bool t504)) (fun _ hk => ⟨⟨hk.1.1.1, hk.1.2⟩, hk.1.1.2⟩)) hg hat); have n1_ := Aside0.mk (Kd.R_after (ok := (fun k_ => some k_ ≠ (.slice Ao31 t486.length co31 : Value).ownBlock ∧ k_ ≠ gb506)) (by exact Kd.R_mono (Kd.R_far (p := ⟨gb506, 2, none⟩) (Kd.R_far (p := ⟨gb506, 1, none⟩) (Kd.R_far (p := ⟨gb506, 0, none⟩) (Kd.R_mono HO_9.out (fun k_ hk => (⟨hk, hk.2⟩ : _ ∧ k_ ≠ gb506))) (fun _ hk => hk.2) (.string t502)) (fun _ hk => hk.2) (.int .i64 t503)) (fun _ hk => hk.2) (.bool t504)) (fun _ hk => ⟨⟨hk.1.1.1, hk.1.2⟩, hk.1.1.2⟩)) hg hat); have n2_ := Aside0.mk (Kd.R_over' (by exact (Kd.R_mono (Kd.R_far (p := ⟨gb506, 2, none⟩) (Kd.R_far (p := ⟨gb506, 1, none⟩) (Kd.R_far (p := ⟨gb506, 0, none⟩) (Kd.R_types HO_10.out BK506.out (by decide)) (fun _ hk => hk.2) (.string t502)) (fun _ hk => hk.2) (.int .i64 t503)) (fun _ hk => hk.2) (.bool t504)) (fun _ h_ => h_.1))) (Kd.R_typed (by exact (Kd.R_mono (Kd.R_far (p := ⟨gb506, 2, none⟩) (Kd.R_far (p := ⟨gb506, 1, none⟩) (Kd.R_far (p := ⟨gb506, 0, none⟩) (Kd.R_mono HO_11.out (fun k_ hk => (⟨hk, hk.2⟩ : _ ∧ k_ ≠ gb506))) (fun _ hk => hk.2) (.string t502)) (fun _ hk => hk.2) (.int .i64 t503)) (fun _ hk => hk.2) (.bool t504)) (fun _ h_ => h_.1)))) (by decide) hg); have n3_ := Aside0.mk (blk_grown (g := gb506) (o := .cells #[.string t502, .int .i64 t503, .bool t504] 68 (0, 0)) (by refine blk_put (cs := #[.string t502, .int .i64 t503, .bool false]) ?_ 2 _ rfl; refine blk_put (cs := #[.string t502, .int .i64 0, .bool false]) ?_ 1 _ rfl; refine blk_put (cs := #[.string (⟨#[]⟩ : ByteArray), .int .i64 0, .bool false]) ?_ 0 _ rfl; exact BK506.out) hg (Kd.R_away HO_11.out (fun _ hk => hk.2))); have n4_ := Aside0.mk (hb); have n5_ := Aside0.mk (ho); clear HO_8; clear HO_9; clear HO_10; clear BK506; clear HB; clear HO_11; have HO_8 := n0_; have HO_9 := n1_; have HO_10 := n2_; have BK506 := n3_; have HB := n4_; have HO515 := n5_; clear n0_ n1_ n2_ n3_ n4_ n5_; clear ho hb hg hat))
              go_roundg k1
              case measure => have := HK1.out; omega
              case rel => exact ⟨(x10_1), (y513), (wrap64 (x12_1 + 1)), vE, H', ⟨by have := HK1.out; omega⟩, ⟨by exact Kd.R_mono HO_8.out (fun _ hk => ⟨hk.1.1, hk.2⟩)⟩, ⟨by exact Kd.R_mono HO_9.out (fun _ hk => ⟨hk.1.1, hk.2⟩)⟩, ⟨by exact HO_10.out⟩, ⟨by exact Kd.R_mono HO515.out (fun _ hk => ⟨hk.1, hk.2.1⟩)⟩, ⟨bW⟩⟩
            · rw [if_neg c29] at H
              exact absurd H (by simp)
        · rw [if_neg c13] at H
          exact absurd H (by simp)
      · rw [if_neg c12] at H
        have c12b0 : decide (x12_1 < (t489.length : Int)) = false := decide_eq_false c12
        clear c12
        replace H := Option.bind_eq_some_iff.mp H
        obtain ⟨t498, A360, H⟩ := H
        replace H : (some (t498, x10_1)) = some (r1, r2) := H
        have A36 := Aside0.mk A360
        clear A360
        simp only [Option.some.injEq, Prod.mk.injEq] at H
        obtain ⟨rfl, rfl⟩ := H
        obtain ⟨Ao37, co37, eo37⟩ := Kd.R_slice HO_9.out
        subst eo37
        obtain ⟨Ao38, co38, eo38⟩ := Kd.R_slice HO_11.out
        subst eo38
        go_wp2_with ((go_at_call 67; (with_reducible refine (spec_l01Apply.calls k1 _ _ l1 _ _ x11_1 t498 _ ?side1 ?side2 ?side3 ?side4 A36.out).mono ?_); (case side1 => exact cB HR1); (case side2 => exact HC1.out); (case side3 => repeat (exact (Kd.R_reads' HO_11.out).2.2)); (case side4 => exact (Kd.R_reads' HO_11.out).2.1); rintro e w39 ⟨v499, rfl, ho0, hb⟩; have n0_ := Aside0.mk (Kd.R_below (pR HO_8) hb); have n1_ := Aside0.mk (Kd.R_below (pR HO_9) hb); have n2_ := Aside0.mk (Kd.R_below (pR HO_10) hb); have n3_ := Aside0.mk (Kd.R_below (pR HO_11) hb); have n4_ := Aside0.mk (Kd.R_lower ho0 (below_size (w := w) bW)); have n5_ := Aside0.mk (below_step (w := w) bW hb); clear HO_8; clear HO_9; clear HO_10; clear HO_11; clear HB; have HO_8 := n0_; have HO_9 := n1_; have HO_10 := n2_; have HO_11 := n3_; have HO500 := n4_; have HB := n5_; clear n0_ n1_ n2_ n3_ n4_ n5_; (try clear hb); (try clear ho0)))
        go_ret2
        exact ⟨_, _, by rfl, by exact HO500.out, by exact HO_10.out, bW⟩
end Go.Proofs.YtblejbgkcgajgaaGreat.Q
end

section
namespace Go.Proofs.YtblejbgkcgajgaaGreat.Q
open Go.RowKit Go.Proofs.YtblejbgkcgajgaaGreatW.PrintWords Go.Proofs.YtblejbgkcgajgaaGreatW.PrintLast Go.Proofs.YtblejbgkcgajgaaGreatW.PrintMore
attribute [local go_sem] max2_int min2_int max_two min_two max_three min_three max_four min_four   -- for this text's walks alone
set_option linter.unusedVariables false
set_option linter.unusedSimpArgs false
attribute [local go_sem] bin_leq bin_gtr bin_geq
mutual
def spec_l03Reach.l0 : Nat → List (S64) → List Bool → Int → Option (List Bool)
  | 0, _, _, _ => none
  | k + 1, x0, x5, x6 => if x6 > 0 then (if 0 ≤ x6 then (if x6 < (x5.length : Int) then (if rdOf false x5 x6 = true then (spec_l03Reach.l1 k x0 x5 x6 0) else (spec_l03Reach.l0 k x0 x5 (wrap64 (x6 - 1)))) else (none)) else (none)) else (some x5)
def spec_l03Reach.l1 : Nat → List (S64) → List Bool → Int → Int → Option (List Bool)
  | 0, _, _, _, _ => none
  | k + 1, x0, x5, x6, x7 => if 0 ≤ (wrap64 (x6 - 1)) then (if (wrap64 (x6 - 1)) < (x0.length : Int) then (if x7 < (((rd_T64 x0 (wrap64 (x6 - 1))).f0).length : Int) then (if 0 ≤ x7 then (if 0 ≤ (rd ((rd_T64 x0 (wrap64 (x6 - 1))).f0) x7) then (if (rd ((rd_T64 x0 (wrap64 (x6 - 1))).f0) x7) < (x5.length : Int) then (spec_l03Reach.l1 k x0 (x5.set ((rd ((rd_T64 x0 (wrap64 (x6 - 1))).f0) x7) : Int).toNat true) x6 (wrap64 (x7 + 1))) else (none)) else (none)) else (none)) else (spec_l03Reach.l0 k x0 x5 (wrap64 (x6 - 1)))) else (none)) else (none)
end
def spec_l03Reach.f (k : Nat) (l0 : List (S64)) (a1 : Int) : Option (List Bool) := if 0 ≤ (wrap64 ((l0.length : Int) + 1)) then (if (wrap64 ((l0.length : Int) + 1) : Int).toNat ≤ 281474976710656 then ((some (List.replicate (wrap64 ((l0.length : Int) + 1) : Int).toNat false : List Bool)).bind fun y516 => (if 0 ≤ a1 then (if a1 < (y516.length : Int) then (spec_l03Reach.l0 k l0 (y516.set (a1 : Int).toNat true) a1) else (none)) else (none))) else (none)) else (none)
set_option maxHeartbeats 8000000 in
set_option maxRecDepth 100000 in
theorem spec_l03Reach.calls (k : Nat) (A0 : Option Addr) (c0 : Nat) (l0 : List (S64)) (a1 : Int) (r : List Bool) (w : World) (hr0 : Kd.C k64 w A0 l0.length l0) (hc0 : l0.length ≤ c0) (h : spec_l03Reach.f k l0 a1 = some r) :
    Calls Tryz.prog 68 #[.slice A0 l0.length c0, .int .i64 a1] w fun e w' => ∃ v0_ : Value, e = .returned (v0_) ∧ Kd.R Kd.bool 4 w' w.heap.size (fun _ => True) v0_ r ∧ Below w.heap.size w w' := by
  have HR0 := Aside0.mk hr0
  have HC0 := Aside0.mk hc0
  clear hr0 hc0
  have HB := Aside0.mk (Below.refl w.heap.size w)
  have H : (if 0 ≤ (wrap64 ((l0.length : Int) + 1)) then (if (wrap64 ((l0.length : Int) + 1) : Int).toNat ≤ 281474976710656 then ((some (List.replicate (wrap64 ((l0.length : Int) + 1) : Int).toNat false : List Bool)).bind fun y516 => (if 0 ≤ a1 then (if a1 < (y516.length : Int) then (spec_l03Reach.l0 k l0 (y516.set (a1 : Int).toNat true) a1) else (none)) else (none))) else (none)) else (none)) = some r := h
  clear h
  obtain ⟨ji3, hji3⟩ : ∃ j_ : Int, (wrap64 ((l0.length : Int) + 1)) = j_ := ⟨_, rfl⟩
  replace H : (if 0 ≤ (ji3) then (if (ji3 : Int).toNat ≤ 281474976710656 then ((some (List.replicate (ji3 : Int).toNat false : List Bool)).bind fun y516 => (if 0 ≤ a1 then (if a1 < (y516.length : Int) then (spec_l03Reach.l0 k l0 (y516.set (a1 : Int).toNat true) a1) else (none)) else (none))) else (none)) else (none)) = some r := by (rw [hji3] at H; exact H)
  have hji3w : (IntKind.i64.wrap ((l0.length : Int) + 1)) = ji3 := (i64_w _).trans hji3
  by_cases c4 : 0 ≤ (ji3)
  · rw [if_pos c4] at H
    have c4b0 := eq_true c4
    have c4b1 : decide (0 ≤ (ji3)) = true := decide_eq_true c4
    clear c4
    by_cases c5 : (ji3 : Int).toNat ≤ 281474976710656
    · rw [if_pos c5] at H
      have c5b0 := eq_true c5
      have c5b1 : decide ((ji3 : Int).toNat ≤ 281474976710656) = true := decide_eq_true c5
      clear c5
      obtain ⟨y516, hy516⟩ : ∃ y_ : List Bool, y_ = (List.replicate (ji3 : Int).toNat false) := ⟨_, rfl⟩
      replace H : (if 0 ≤ a1 then (if a1 < (y516.length : Int) then (spec_l03Reach.l0 k l0 (y516.set (a1 : Int).toNat true) a1) else (none)) else (none)) = some r := by (have H2_ := (Option.bind_some _ _).symm.trans H; rw [hy516]; with_reducible exact H2_)
      have Ny516 := Aside0.mk hy516
      clear hy516
      by_cases c6 : 0 ≤ a1
      · rw [if_pos c6] at H
        have c6b0 : decide (0 ≤ a1) = true := decide_eq_true c6
        clear c6
        by_cases c7 : a1 < (y516.length : Int)
        · rw [if_pos c7] at H
          have c7b0 : decide (a1 < (y516.length : Int)) = true := decide_eq_true c7
          clear c7
          obtain ⟨y519, hy519⟩ : ∃ y_ : List Bool, y_ = (y516.set (a1 : Int).toNat true) := ⟨_, rfl⟩
          replace H : (spec_l03Reach.l0 k l0 y519 a1) = some r := by (rw [hy519]; with_reducible exact H)
          have Ny519 := Aside0.mk hy519
          clear hy519
          have H' := Aside0.mk H
          clear H
          go_enter Tryz.func68, Tryz.ntmps68
          go_wp2_with (first | ((with_reducible refine gate_dst (N := 11) rfl ?_); refine Kd.R_make Kd.bool _ 4 rfl (N := 11) rfl 107 _ _ rfl ji3 rfl rfl Tryz.underlying107 (.bool false) 1 info4 rfl (by decide) (by omega) false (ok := fun _ => True) (okp := fun _ => True) rfl (fun _ hk => hk) trivial (odt) (Nat.le_trans (Nat.mul_le_mul_right _ (odt : ji3.toNat ≤ 281474976710656)) (by omega)) (Below.refl _ _) (Nat.le_refl _) ?_; intro v517 w9 ho10 hb hg_ hnew_; clear hg_ hnew_; (rw [← Ny516.out] at ho10); have n0_ := Aside0.mk (Kd.R_lower ho10 (below_size (w := w) bW)); have n1_ := Aside0.mk (below_step (w := w) bW hb); clear HB; have HO518 := n0_; have HB := n1_; clear n0_ n1_; clear hb ho10; have p8 : 0 ≤ (a1 : Int) := odt; have q8 : (a1 : Int) < ((y516.length : Int) : Int) := odt; obtain ⟨go8, co8, eo8, gb8, gl8, cl8, HG8⟩ := Kd.R_form HO518.out (by omega); (cases eo8); have GB8 := Aside0.mk gb8; have GG8 := Aside0.mk HG8; clear gb8 gl8 HG8; obtain ⟨hx8_0, hf8_0⟩ := Kd.R_celln false HO518.out (a1 : Int) p8 q8; replace p8 := eq_true p8; replace q8 := eq_true q8; obtain ⟨hy11_, hz11_⟩ := Kd.R_celln false HO518.out (a1 : Int) (odt) (odt); have HP11 := Kd.R_putg HO518.out (a1 : Int) true) | ((with_reducible refine gate_store (t := 4) (p := 14) rfl ?_); refine store_event (t := 4) (p := 14) (v := ?vo_w12) (w1 := (w9.setCell ⟨go8, (a1 : Int).toNat, none⟩ (.bool true))) ?hg ?ho ?hn ?hr ?_; (case ho => rfl); (case hg => rfl); (case hn => rfl); (case hr => (go_simp; done)); intro w12 hw; have hg : w9.grownBy w12 (some go8) := (by rw [hw]; exact HP11.2); have hp_ : Kd.R Kd.bool 4 w12 w.heap.size (fun _ => True) (.slice (some ⟨go8, 0, none⟩) y516.length co8) y519 := (by rw [hw, Ny519.out]; exact HP11.1); clear HP11; have n0_ := Aside0.mk (hp_); have n1_ := Aside0.mk ((by rw [hw]; exact below_set (HB.out) GB8.out : Below w.heap.size w w12)); clear HO518; clear HB; have HO518 := n0_; have HB := n1_; clear n0_ n1_; clear hg hw hp_))
          go_loopg [6] k (fun kq v6 w' => ∃ (x5_1 : List Bool) (x6_1 : Int), v6 = .int .i64 x6_1 ∧ Aside0 (spec_l03Reach.l0 kq l0 x5_1 x6_1 = some r) ∧ Aside0 (kq ≤ k) ∧ Aside0 (Kd.R Kd.bool 4 w' w.heap.size (fun _ => True) (.slice (some ⟨go8, 0, none⟩) y516.length co8) x5_1) ∧ Aside0 (Below w.heap.size w w'))
          case atStart => exact ⟨(y519), (a1), vE, H', ⟨Nat.le_refl _⟩, ⟨by exact HO518.out⟩, ⟨bW⟩⟩
          case round =>
            clear H'
            try clear c4b0
            try clear c4b1
            try clear c5b0
            try clear c5b1
            try clear c6b0
            try clear c7b0
            try clear p8
            try clear q8
            try clear hx8_0
            obtain ⟨x5_1, x6_1, rfl, HA, HK1, HO_5, HB⟩ := hrel
            have hl5_1 := (Kd.R_reads' HO_5.out).1
            rw [hl5_1] at HO_5
            (try simp only [hl5_1])
            cases gk with
            | zero => exact absurd HA.out (by simp [spec_l03Reach.l0])
            | succ k1 =>
              have H := HA.out
              clear HA
              simp only [spec_l03Reach.l0] at H
              by_cases c13 : x6_1 > 0
              · rw [if_pos c13] at H
                have c13b0 : decide (0 < x6_1) = true := decide_eq_true c13
                clear c13
                by_cases c14 : 0 ≤ x6_1
                · rw [if_pos c14] at H
                  have c14b0 : decide (0 ≤ x6_1) = true := decide_eq_true c14
                  clear c14
                  by_cases c15 : x6_1 < (x5_1.length : Int)
                  · rw [if_pos c15] at H
                    have c15b0 : decide (x6_1 < (x5_1.length : Int)) = true := decide_eq_true c15
                    clear c15
                    obtain ⟨bq16, hbq16⟩ : ∃ b_ : Bool, b_ = (rdOf false x5_1 x6_1) := ⟨_, rfl⟩
                    replace H : (if bq16 = true then (spec_l03Reach.l1 k1 l0 x5_1 x6_1 0) else (spec_l03Reach.l0 k1 l0 x5_1 (wrap64 (x6_1 - 1)))) = some r := by rw [← hbq16] at H; exact H
                    have Nbq16 := Aside0.mk hbq16
                    clear hbq16
                    by_cases c17 : bq16 = true
                    · subst c17
                      have H1 : (spec_l03Reach.l1 k1 l0 x5_1 x6_1 0) = some r := by rw [if_pos rfl] at H; exact H
                      clear H
                      have H := H1
                      clear H1
                      have H' := Aside0.mk H
                      clear H
                      have p520 : 0 ≤ (x6_1 : Int) := odt
                      have q520 : x6_1 < (x5_1.length : Int) := odt
                      obtain ⟨ad520, e520, hx520_0⟩ := Kd.at_bool (Kd.R_reads' HO_5.out).2.2 x6_1 p520 q520
                      (try rw [← Nbq16.out] at hx520_0)
                      obtain rfl : (⟨go8, 0, none⟩ : Addr) = ad520 := (by injection e520)
                      (simp only [add_plain] at hx520_0)
                      replace p520 := eq_true p520
                      replace q520 := eq_true q520
                      go_wp2
                      go_loopg [7] k1 (fun kq v7 w' => ∃ (x5_2 : List Bool) (x7_2 : Int), v7 = .int .i64 x7_2 ∧ Aside0 (spec_l03Reach.l1 kq l0 x5_2 x6_1 x7_2 = some r) ∧ Aside0 (kq ≤ k1) ∧ Aside0 (Kd.R Kd.bool 4 w' w.heap.size (fun _ => True) (.slice (some ⟨go8, 0, none⟩) x5_1.length co8) x5_2) ∧ Aside0 (Below w.heap.size w w'))
                      case atStart => exact ⟨(x5_1), (0), vE, H', ⟨Nat.le_refl _⟩, ⟨by exact HO_5.out⟩, ⟨bW⟩⟩
                      case round =>
                        clear H'
                        try clear c13b0
                        try clear c14b0
                        try clear c15b0
                        try clear hx520_0
                        try clear p520
                        try clear q520
                        obtain ⟨x5_2, x7_2, rfl, HA, HK2, HO_5, HB⟩ := hrel
                        have hl5_2 := (Kd.R_reads' HO_5.out).1
                        rw [hl5_2] at HO_5
                        (try simp only [hl5_2])
                        cases gk with
                        | zero => exact absurd HA.out (by simp [spec_l03Reach.l1])
                        | succ k2 =>
                          have H := HA.out
                          clear HA
                          simp only [spec_l03Reach.l1] at H
                          obtain ⟨ji18, hji18⟩ : ∃ j_ : Int, (wrap64 (x6_1 - 1)) = j_ := ⟨_, rfl⟩
                          replace H : (if 0 ≤ (ji18) then (if (ji18) < (l0.length : Int) then (if x7_2 < (((rd_T64 l0 (ji18)).f0).length : Int) then (if 0 ≤ x7_2 then (if 0 ≤ (rd ((rd_T64 l0 (ji18)).f0) x7_2) then (if (rd ((rd_T64 l0 (ji18)).f0) x7_2) < (x5_2.length : Int) then (spec_l03Reach.l1 k2 l0 (x5_2.set ((rd ((rd_T64 l0 (ji18)).f0) x7_2) : Int).toNat true) x6_1 (wrap64 (x7_2 + 1))) else (none)) else (none)) else (none)) else (spec_l03Reach.l0 k2 l0 x5_2 ji18)) else (none)) else (none)) = some r := by (rw [hji18] at H; exact H)
                          have hji18w : (IntKind.i64.wrap (x6_1 - 1)) = ji18 := (i64_w _).trans hji18
                          by_cases c19 : 0 ≤ (ji18)
                          · rw [if_pos c19] at H
                            have c19b0 : decide (0 ≤ (ji18)) = true := decide_eq_true c19
                            clear c19
                            by_cases c20 : (ji18) < (l0.length : Int)
                            · rw [if_pos c20] at H
                              have c20b0 : decide ((ji18) < (l0.length : Int)) = true := decide_eq_true c20
                              clear c20
                              by_cases c21 : x7_2 < (((rd_T64 l0 (ji18)).f0).length : Int)
                              · rw [if_pos c21] at H
                                have c21b0 : decide (x7_2 < (((rd_T64 l0 (ji18)).f0).length : Int)) = true := decide_eq_true c21
                                clear c21
                                by_cases c22 : 0 ≤ x7_2
                                · rw [if_pos c22] at H
                                  have c22b0 : decide (0 ≤ x7_2) = true := decide_eq_true c22
                                  clear c22
                                  by_cases c23 : 0 ≤ (rd ((rd_T64 l0 (ji18)).f0) x7_2)
                                  · rw [if_pos c23] at H
                                    have c23b0 : decide (0 ≤ (rd ((rd_T64 l0 (ji18)).f0) x7_2)) = true := decide_eq_true c23
                                    clear c23
                                    by_cases c24 : (rd ((rd_T64 l0 (ji18)).f0) x7_2) < (x5_2.length : Int)
                                    · rw [if_pos c24] at H
                                      have c24b0 : decide ((rd ((rd_T64 l0 (ji18)).f0) x7_2) < (x5_2.length : Int)) = true := decide_eq_true c24
                                      clear c24
                                      obtain ⟨y524, hy524⟩ : ∃ y_ : List Bool, y_ = (x5_2.set ((rd ((rd_T64 l0 (ji18)).f0) x7_2) : Int).toNat true) := ⟨_, rfl⟩
                                      replace H : (spec_l03Reach.l1 k2 l0 y524 x6_1 (wrap64 (x7_2 + 1))) = some r := by (rw [hy524]; with_reducible exact H)
                                      have Ny524 := Aside0.mk hy524
                                      clear hy524
                                      have H' := Aside0.mk H
                                      clear H
                                      have p521 : 0 ≤ ((ji18) : Int) := odt
                                      have q521 : (ji18) < (l0.length : Int) := odt
                                      obtain ⟨ad521, A521_0, c521_0, A521_1, c521_1, e521, hx521_0, hx521_1, hl521_0, hi521_0, hl521_1, hi521_1⟩ := at_T64 HR0.out (ji18) p521 q521
                                      cases e521
                                      replace hx521_0 := (HB.out.cell (World.block_lt_of_cell? w _ hx521_0)).trans hx521_0
                                      replace hx521_1 := (HB.out.cell (World.block_lt_of_cell? w _ hx521_1)).trans hx521_1
                                      have HR521_0 := Aside0.mk hi521_0
                                      have HC521_0 := Aside0.mk hl521_0
                                      clear hi521_0 hl521_0
                                      have HR521_1 := Aside0.mk hi521_1
                                      have HC521_1 := Aside0.mk hl521_1
                                      clear hi521_1 hl521_1
                                      replace p521 := eq_true p521
                                      replace q521 := eq_true q521
                                      have p522 : 0 ≤ ((ji18) : Int) := odt
                                      have q522 : (ji18) < (l0.length : Int) := odt
                                      obtain ⟨ad522, A522_0, c522_0, A522_1, c522_1, e522, hx522_0, hx522_1, hl522_0, hi522_0, hl522_1, hi522_1⟩ := at_T64 HR0.out (ji18) p522 q522
                                      obtain rfl : ad521 = ad522 := (by injection e522)
                                      replace hx522_0 := (HB.out.cell (World.block_lt_of_cell? w _ hx522_0)).trans hx522_0
                                      replace hx522_1 := (HB.out.cell (World.block_lt_of_cell? w _ hx522_1)).trans hx522_1
                                      have HR522_0 := Aside0.mk hi522_0
                                      have HC522_0 := Aside0.mk hl522_0
                                      clear hi522_0 hl522_0
                                      have HR522_1 := Aside0.mk hi522_1
                                      have HC522_1 := Aside0.mk hl522_1
                                      clear hi522_1 hl522_1
                                      replace p522 := eq_true p522
                                      replace q522 := eq_true q522
                                      have ea_ := Option.some.inj (hx521_0.symm.trans hx522_0)
                                      injection ea_ with ea_ en_ ec_
                                      subst ea_
                                      subst ec_
                                      clear en_
                                      have ea_ := Option.some.inj (hx521_1.symm.trans hx522_1)
                                      injection ea_ with ea_ en_ ec_
                                      subst ea_
                                      subst ec_
                                      clear en_
                                      have p523 : 0 ≤ (x7_2 : Int) := odt
                                      have q523 : x7_2 < (((rd_T64 l0 (ji18)).f0).length : Int) := odt
                                      obtain ⟨ad523, e523, hx523_0⟩ := Kd.at_int HR522_0.out x7_2 p523 q523
                                      cases e523
                                      replace hx523_0 := (HB.out.cell (World.block_lt_of_cell? w _ hx523_0)).trans hx523_0
                                      replace p523 := eq_true p523
                                      replace q523 := eq_true q523
                                      have p25 : 0 ≤ ((rd ((rd_T64 l0 (ji18)).f0) x7_2) : Int) := odt
                                      have q25 : ((rd ((rd_T64 l0 (ji18)).f0) x7_2) : Int) < ((x5_2.length : Int) : Int) := odt
                                      obtain ⟨hx25_0, hf25_0⟩ := Kd.R_celln false HO_5.out ((rd ((rd_T64 l0 (ji18)).f0) x7_2) : Int) p25 q25
                                      replace p25 := eq_true p25
                                      replace q25 := eq_true q25
                                      have HP26 := Kd.R_putg HO_5.out ((rd ((rd_T64 l0 (ji18)).f0) x7_2) : Int) true
                                      go_wp2_with (((with_reducible refine gate_store (t := 4) (p := 46) rfl ?_); refine store_event (t := 4) (p := 46) (v := ?vo_w27) (w1 := (wr.setCell ⟨go8, ((rd ((rd_T64 l0 (ji18)).f0) x7_2) : Int).toNat, none⟩ (.bool true))) ?hg ?ho ?hn ?hr ?_; (case ho => rfl); (case hg => rfl); (case hn => rfl); (case hr => (go_simp; done)); intro w27 hw; have hg : wr.grownBy w27 (some go8) := (by rw [hw]; exact HP26.2); have hp_ : Kd.R Kd.bool 4 w27 w.heap.size (fun _ => True) (.slice (some ⟨go8, 0, none⟩) x5_2.length co8) y524 := (by rw [hw, Ny524.out]; exact HP26.1); clear HP26; have n0_ := Aside0.mk (hp_); have n1_ := Aside0.mk ((by rw [hw]; exact below_set (HB.out) GB8.out : Below w.heap.size w w27)); clear HO_5; clear HB; have HO_5 := n0_; have HB := n1_; clear n0_ n1_; clear hg hw hp_))
                                      (try simp only [← hl5_2])
                                      go_roundg k2
                                      case measure => have := HK1.out; have := HK2.out; omega
                                      case rel => exact ⟨(y524), (wrap64 (x7_2 + 1)), vE, H', ⟨by have := HK1.out; have := HK2.out; omega⟩, ⟨by (try simp only [hl5_2]); exact HO_5.out⟩, ⟨bW⟩⟩
                                    · rw [if_neg c24] at H
                                      exact absurd H (by simp)
                                  · rw [if_neg c23] at H
                                    exact absurd H (by simp)
                                · rw [if_neg c22] at H
                                  exact absurd H (by simp)
                              · rw [if_neg c21] at H
                                have c21b0 : decide (x7_2 < (((rd_T64 l0 (ji18)).f0).length : Int)) = false := decide_eq_false c21
                                clear c21
                                have H' := Aside0.mk H
                                clear H
                                have p521 : 0 ≤ ((ji18) : Int) := odt
                                have q521 : (ji18) < (l0.length : Int) := odt
                                obtain ⟨ad521, A521_0, c521_0, A521_1, c521_1, e521, hx521_0, hx521_1, hl521_0, hi521_0, hl521_1, hi521_1⟩ := at_T64 HR0.out (ji18) p521 q521
                                cases e521
                                replace hx521_0 := (HB.out.cell (World.block_lt_of_cell? w _ hx521_0)).trans hx521_0
                                replace hx521_1 := (HB.out.cell (World.block_lt_of_cell? w _ hx521_1)).trans hx521_1
                                have HR521_0 := Aside0.mk hi521_0
                                have HC521_0 := Aside0.mk hl521_0
                                clear hi521_0 hl521_0
                                have HR521_1 := Aside0.mk hi521_1
                                have HC521_1 := Aside0.mk hl521_1
                                clear hi521_1 hl521_1
                                replace p521 := eq_true p521
                                replace q521 := eq_true q521
                                go_wp2
                                (try simp only [← hl5_1, ← hl5_2])
                                go_roundg k2
                                case measure => have := HK1.out; have := HK2.out; omega
                                case rel => exact ⟨(x5_2), (ji18), (by rfl), H', ⟨by have := HK1.out; have := HK2.out; omega⟩, ⟨by (try simp only [hl5_1]); (try simp only [hl5_2]); exact HO_5.out⟩, ⟨bW⟩⟩
                            · rw [if_neg c20] at H
                              exact absurd H (by simp)
                          · rw [if_neg c19] at H
                            exact absurd H (by simp)
                    · replace c17 := Bool.eq_false_iff.mpr c17
                      subst c17
                      have H1 : (spec_l03Reach.l0 k1 l0 x5_1 (wrap64 (x6_1 - 1))) = some r := by rw [if_neg (show ¬ (false = true) by decide)] at H; exact H
                      clear H
                      have H := H1
                      clear H1
                      have H' := Aside0.mk H
                      clear H
                      have p520 : 0 ≤ (x6_1 : Int) := odt
                      have q520 : x6_1 < (x5_1.length : Int) := odt
                      obtain ⟨ad520, e520, hx520_0⟩ := Kd.at_bool (Kd.R_reads' HO_5.out).2.2 x6_1 p520 q520
                      (try rw [← Nbq16.out] at hx520_0)
                      obtain rfl : (⟨go8, 0, none⟩ : Addr) = ad520 := (by injection e520)
                      (simp only [add_plain] at hx520_0)
                      replace p520 := eq_true p520
                      replace q520 := eq_true q520
                      go_wp2
                      (try simp only [← hl5_1])
                      go_roundg k1
                      case measure => have := HK1.out; omega
                      case rel => exact ⟨(x5_1), (wrap64 (x6_1 - 1)), vE, H', ⟨by have := HK1.out; omega⟩, ⟨by (try simp only [hl5_1]); exact HO_5.out⟩, ⟨bW⟩⟩
                  · rw [if_neg c15] at H
                    exact absurd H (by simp)
                · rw [if_neg c14] at H
                  exact absurd H (by simp)
              · rw [if_neg c13] at H
                have c13b0 : decide (0 < x6_1) = false := decide_eq_false c13
                clear c13
                obtain rfl := Option.some.inj H
                go_wp2
                go_ret
                exact ⟨_, by rfl, by exact HO_5.out, bW⟩
        · rw [if_neg c7] at H
          exact absurd H (by simp)
      · rw [if_neg c6] at H
        exact absurd H (by simp)
    · rw [if_neg c5] at H
      exact absurd H (by simp)
  · rw [if_neg c4] at H
    exact absurd H (by simp)
end Go.Proofs.YtblejbgkcgajgaaGreat.Q
end

section
namespace Go.Proofs.YtblejbgkcgajgaaGreat.Q
open Go.RowKit Go.Proofs.YtblejbgkcgajgaaGreatW.PrintWords Go.Proofs.YtblejbgkcgajgaaGreatW.PrintLast Go.Proofs.YtblejbgkcgajgaaGreatW.PrintMore
attribute [local go_sem] max2_int min2_int max_two min_two max_three min_three max_four min_four   -- for this text's walks alone
set_option linter.unusedVariables false
set_option linter.unusedSimpArgs false
attribute [local go_sem] bin_leq bin_gtr bin_geq
def spec_l03Base.l0 : Nat → List Bool → List Bool → Int → Option (Int)
  | 0, _, _, _ => none
  | k + 1, x7, x8, x9 => if 0 ≤ x9 then (if x9 < (x7.length : Int) then (if rdOf false x7 x9 = true then (if x9 < (x8.length : Int) then (if rdOf false x8 x9 = true then (some x9) else (spec_l03Base.l0 k x7 x8 (wrap64 (x9 - 1)))) else (none)) else (spec_l03Base.l0 k x7 x8 (wrap64 (x9 - 1)))) else (none)) else (none)
def spec_l03Base.f (k : Nat) (l0 : List (S64)) (a1 : Int) (a2 : Int) : Option (Int) := (spec_l03Reach.f k l0 a1).bind fun t525 => ((spec_l03Reach.f k l0 a2).bind fun t528 => (spec_l03Base.l0 k t525 t528 (mn a1 a2)))
set_option maxHeartbeats 8000000 in
set_option maxRecDepth 100000 in
theorem spec_l03Base.calls (k : Nat) (A0 : Option Addr) (c0 : Nat) (l0 : List (S64)) (a1 : Int) (a2 : Int) (r : Int) (w : World) (hr0 : Kd.C k64 w A0 l0.length l0) (hc0 : l0.length ≤ c0) (h : spec_l03Base.f k l0 a1 a2 = some r) :
    Calls Tryz.prog 42 #[.slice A0 l0.length c0, .int .i64 a1, .int .i64 a2] w fun e w' => e = .returned (.int .i64 r) ∧ Below w.heap.size w w' := by
  have HR0 := Aside0.mk hr0
  have HC0 := Aside0.mk hc0
  clear hr0 hc0
  have HB := Aside0.mk (Below.refl w.heap.size w)
  have H : ((spec_l03Reach.f k l0 a1).bind fun t525 => ((spec_l03Reach.f k l0 a2).bind fun t528 => (spec_l03Base.l0 k t525 t528 (mn a1 a2)))) = some r := h
  clear h
  replace H := Option.bind_eq_some_iff.mp H
  obtain ⟨t525, A40, H⟩ := H
  replace H : ((spec_l03Reach.f k l0 a2).bind fun t528 => (spec_l03Base.l0 k t525 t528 (mn a1 a2))) = some r := H
  have A4 := Aside0.mk A40
  clear A40
  replace H := Option.bind_eq_some_iff.mp H
  obtain ⟨t528, A50, H⟩ := H
  replace H : (spec_l03Base.l0 k t525 t528 (mn a1 a2)) = some r := H
  have A5 := Aside0.mk A50
  clear A50
  obtain ⟨ji6, hji6⟩ : ∃ j_ : Int, (mn a1 a2) = j_ := ⟨_, rfl⟩
  replace H : (spec_l03Base.l0 k t525 t528 ji6) = some r := by (rw [hji6] at H; exact H)
  have hji6_ : (if a2 < a1 then a2 else a1) = ji6 := hji6
  have H' := Aside0.mk H
  clear H
  go_enter Tryz.func42, Tryz.ntmps42
  go_wp2_with (first | ((with_reducible refine gate_callee (f := 68) rfl ?_); refine goesL_ (some 12) rfl rfl Tryz.func68 (by kernel_rfl) rfl #[.slice A0 l0.length c0, .int .i64 a1] rfl gA ?_; (with_reducible refine (spec_l03Reach.calls k _ _ l0 a1 t525 _ ?side1 ?side2 A4.out).mono ?_); (case side1 => exact cN HR0); (case side2 => exact HC0.out); rintro e w7 ⟨v526, rfl, ho0, hb⟩; refine ⟨_, rfl, ?_⟩; have n0_ := Aside0.mk (Kd.R_lower ho0 (below_size (w := w) bW)); have n1_ := Aside0.mk (below_step (w := w) bW hb); clear HB; have HO527 := n0_; have HB := n1_; clear n0_ n1_; (try clear hb); (try clear ho0)) | ((with_reducible refine gate_callee (f := 68) rfl ?_); refine goesL_ (some 15) rfl rfl Tryz.func68 (by kernel_rfl) rfl #[.slice A0 l0.length c0, .int .i64 a2] rfl gA ?_; (with_reducible refine (spec_l03Reach.calls k _ _ l0 a2 t528 _ ?side1 ?side2 A5.out).mono ?_); (case side1 => exact cB HR0); (case side2 => exact HC0.out); rintro e w8 ⟨v529, rfl, ho0, hb⟩; refine ⟨_, rfl, ?_⟩; have n0_ := Aside0.mk (Kd.R_elder' (pR HO527) (Kd.R_base ho0) hb); have n1_ := Aside0.mk (Kd.R_lower (Kd.R_new' ho0 (Kd.R_lt (pR HO527))) (below_size (w := w) bW)); have n2_ := Aside0.mk (below_step (w := w) bW hb); clear HO527; clear HB; have HO527 := n0_; have HO530 := n1_; have HB := n2_; clear n0_ n1_ n2_; (try clear hb); (try clear ho0)))
  go_loopg [9] k (fun kq v9 w' => ∃ (x9_1 : Int), v9 = .int .i64 x9_1 ∧ Aside0 (spec_l03Base.l0 kq t525 t528 x9_1 = some r) ∧ Aside0 (kq ≤ k) ∧ Aside0 (Kd.R Kd.bool 4 w' w.heap.size (fun k_ => some k_ ≠ (v529 : Value).ownBlock) v526 t525) ∧ Aside0 (Kd.R Kd.bool 4 w' w.heap.size (fun k_ => some k_ ≠ (v526 : Value).ownBlock) v529 t528) ∧ Aside0 (Below w.heap.size w w'))
  case atStart => exact ⟨(ji6), (by rfl), H', ⟨Nat.le_refl _⟩, ⟨by exact Kd.R_mono HO527.out (fun _ hk => hk.2)⟩, ⟨by exact Kd.R_mono HO530.out (fun _ hk => hk.2)⟩, ⟨bW⟩⟩
  case round =>
    clear H'
    obtain ⟨x9_1, rfl, HA, HK1, HO_7, HO_8, HB⟩ := hrel
    cases gk with
    | zero => exact absurd HA.out (by simp [spec_l03Base.l0])
    | succ k1 =>
      have H := HA.out
      clear HA
      simp only [spec_l03Base.l0] at H
      by_cases c9 : 0 ≤ x9_1
      · rw [if_pos c9] at H
        have c9b0 : decide (0 ≤ x9_1) = true := decide_eq_true c9
        clear c9
        by_cases c10 : x9_1 < (t525.length : Int)
        · rw [if_pos c10] at H
          have c10b0 : decide (x9_1 < (t525.length : Int)) = true := decide_eq_true c10
          clear c10
          obtain ⟨bq11, hbq11⟩ : ∃ b_ : Bool, b_ = (rdOf false t525 x9_1) := ⟨_, rfl⟩
          replace H : (if bq11 = true then (if x9_1 < (t528.length : Int) then (if rdOf false t528 x9_1 = true then (some x9_1) else (spec_l03Base.l0 k1 t525 t528 (wrap64 (x9_1 - 1)))) else (none)) else (spec_l03Base.l0 k1 t525 t528 (wrap64 (x9_1 - 1)))) = some r := by rw [← hbq11] at H; exact H
          have Nbq11 := Aside0.mk hbq11
          clear hbq11
          by_cases c12 : bq11 = true
          · subst c12
            have H1 : (if x9_1 < (t528.length : Int) then (if rdOf false t528 x9_1 = true then (some x9_1) else (spec_l03Base.l0 k1 t525 t528 (wrap64 (x9_1 - 1)))) else (none)) = some r := by rw [if_pos rfl] at H; exact H
            clear H
            have H := H1
            clear H1
            by_cases c13 : x9_1 < (t528.length : Int)
            · rw [if_pos c13] at H
              have c13b0 : decide (x9_1 < (t528.length : Int)) = true := decide_eq_true c13
              clear c13
              obtain ⟨bq14, hbq14⟩ : ∃ b_ : Bool, b_ = (rdOf false t528 x9_1) := ⟨_, rfl⟩
              replace H : (if bq14 = true then (some x9_1) else (spec_l03Base.l0 k1 t525 t528 (wrap64 (x9_1 - 1)))) = some r := by rw [← hbq14] at H; exact H
              have Nbq14 := Aside0.mk hbq14
              clear hbq14
              by_cases c15 : bq14 = true
              · subst c15
                have H1 : (some x9_1) = some r := by rw [if_pos rfl] at H; exact H
                clear H
                have H := H1
                clear H1
                obtain rfl := Option.some.inj H
                obtain ⟨Ao16, co16, eo16⟩ := Kd.R_slice HO_7.out
                subst eo16
                have p531 : 0 ≤ (x9_1 : Int) := odt
                have q531 : x9_1 < (t525.length : Int) := odt
                obtain ⟨ad531, e531, hx531_0⟩ := Kd.at_bool (Kd.R_reads' HO_7.out).2.2 x9_1 p531 q531
                (try rw [← Nbq11.out] at hx531_0)
                cases e531
                replace p531 := eq_true p531
                replace q531 := eq_true q531
                obtain ⟨Ao17, co17, eo17⟩ := Kd.R_slice HO_8.out
                subst eo17
                have p532 : 0 ≤ (x9_1 : Int) := odt
                have q532 : x9_1 < (t528.length : Int) := odt
                obtain ⟨ad532, e532, hx532_0⟩ := Kd.at_bool (Kd.R_reads' HO_8.out).2.2 x9_1 p532 q532
                (try rw [← Nbq14.out] at hx532_0)
                cases e532
                replace p532 := eq_true p532
                replace q532 := eq_true q532
                go_wp2
                go_ret
                exact ⟨by rfl, bW⟩
              · replace c15 := Bool.eq_false_iff.mpr c15
                subst c15
                have H1 : (spec_l03Base.l0 k1 t525 t528 (wrap64 (x9_1 - 1))) = some r := by rw [if_neg (show ¬ (false = true) by decide)] at H; exact H
                clear H
                have H := H1
                clear H1
                have H' := Aside0.mk H
                clear H
                obtain ⟨Ao18, co18, eo18⟩ := Kd.R_slice HO_7.out
                subst eo18
                have p531 : 0 ≤ (x9_1 : Int) := odt
                have q531 : x9_1 < (t525.length : Int) := odt
                obtain ⟨ad531, e531, hx531_0⟩ := Kd.at_bool (Kd.R_reads' HO_7.out).2.2 x9_1 p531 q531
                (try rw [← Nbq11.out] at hx531_0)
                cases e531
                replace p531 := eq_true p531
                replace q531 := eq_true q531
                obtain ⟨Ao19, co19, eo19⟩ := Kd.R_slice HO_8.out
                subst eo19
                have p532 : 0 ≤ (x9_1 : Int) := odt
                have q532 : x9_1 < (t528.length : Int) := odt
                obtain ⟨ad532, e532, hx532_0⟩ := Kd.at_bool (Kd.R_reads' HO_8.out).2.2 x9_1 p532 q532
                (try rw [← Nbq14.out] at hx532_0)
                cases e532
                replace p532 := eq_true p532
                replace q532 := eq_true q532
                go_wp2
                go_roundg k1
                case measure => have := HK1.out; omega
                case rel => exact ⟨(wrap64 (x9_1 - 1)), vE, H', ⟨by have := HK1.out; omega⟩, ⟨by exact HO_7.out⟩, ⟨by exact HO_8.out⟩, ⟨bW⟩⟩
            · rw [if_neg c13] at H
              exact absurd H (by simp)
          · replace c12 := Bool.eq_false_iff.mpr c12
            subst c12
            have H1 : (spec_l03Base.l0 k1 t525 t528 (wrap64 (x9_1 - 1))) = some r := by rw [if_neg (show ¬ (false = true) by decide)] at H; exact H
            clear H
            have H := H1
            clear H1
            have H' := Aside0.mk H
            clear H
            obtain ⟨Ao20, co20, eo20⟩ := Kd.R_slice HO_7.out
            subst eo20
            have p531 : 0 ≤ (x9_1 : Int) := odt
            have q531 : x9_1 < (t525.length : Int) := odt
            obtain ⟨ad531, e531, hx531_0⟩ := Kd.at_bool (Kd.R_reads' HO_7.out).2.2 x9_1 p531 q531
            (try rw [← Nbq11.out] at hx531_0)
            cases e531
            replace p531 := eq_true p531
            replace q531 := eq_true q531
            go_wp2
            go_roundg k1
            case measure => have := HK1.out; omega
            case rel => exact ⟨(wrap64 (x9_1 - 1)), vE, H', ⟨by have := HK1.out; omega⟩, ⟨by exact HO_7.out⟩, ⟨by exact HO_8.out⟩, ⟨bW⟩⟩
        · rw [if_neg c10] at H
          exact absurd H (by simp)
      · rw [if_neg c9] at H
        exact absurd H (by simp)
end Go.Proofs.YtblejbgkcgajgaaGreat.Q
end

section
namespace Go.Proofs.YtblejbgkcgajgaaGreat.Q
open Go.RowKit Go.Proofs.YtblejbgkcgajgaaGreatW.PrintWords Go.Proofs.YtblejbgkcgajgaaGreatW.PrintLast Go.Proofs.YtblejbgkcgajgaaGreatW.PrintMore
attribute [local go_sem] max2_int min2_int max_two min_two max_three min_three max_four min_four   -- for this text's walks alone
set_option linter.unusedVariables false
set_option linter.unusedSimpArgs false
attribute [local go_sem] bin_leq bin_gtr bin_geq
def spec_l02Told.f (l0 : List (S84)) (l1 : List ByteArray) : Option ((List (S84)) × List ByteArray × Int) := if (l1.length : Int) > 0 then (some ((([] : List (S84))), l1, 11)) else (if (l0.length : Int) > 12 then (some ((([] : List (S84))), (([] : List ByteArray)), 7)) else (some (l0, (([] : List ByteArray)), 0)))
set_option maxHeartbeats 8000000 in
set_option maxRecDepth 100000 in
theorem spec_l02Told.calls (P0_ : Nat → Prop) (u9000_ : Value) (l0 : List (S84)) (P1_ : Nat → Prop) (u9001_ : Value) (l1 : List ByteArray) (r1 : List (S84)) (r2 : List ByteArray) (r3 : Int) (w0 w : World) (hB : Below w0.heap.size w0 w) (ho0 : Kd.R k84 84 w w0.heap.size P0_ u9000_ l0) (ho1 : Kd.R Kd.string 9 w w0.heap.size P1_ u9001_ l1) (h : spec_l02Told.f l0 l1 = some (r1, r2, r3)) :
    Calls Tryz.prog 43 #[u9000_, u9001_] w fun e w' => ∃ v0_ v1_ : Value, e = .returned (.tuple #[v0_, v1_, .int .i64 r3]) ∧ Kd.R k84 84 w' w0.heap.size (fun k_ => ((P0_ k_ ∨ P1_ k_) ∨ w.heap.size ≤ k_)) v0_ r1 ∧ Kd.R Kd.string 9 w' w0.heap.size (fun k_ => ((P0_ k_ ∨ P1_ k_) ∨ w.heap.size ≤ k_)) v1_ r2 ∧ Below w0.heap.size w0 w' ∧ Kept w w' (fun k_ => P0_ k_ ∨ P1_ k_) := by
  have HO0 := Aside0.mk (show Kd.R k84 84 w w0.heap.size (fun k_ => ((P0_ k_ ∨ P1_ k_) ∨ w.heap.size ≤ k_)) u9000_ l0 from Kd.R_mono ho0 (fun k_ hk => (.inl (.inl hk))))
  have HO1 := Aside0.mk (show Kd.R Kd.string 9 w w0.heap.size (fun k_ => ((P0_ k_ ∨ P1_ k_) ∨ w.heap.size ≤ k_)) u9001_ l1 from Kd.R_mono ho1 (fun k_ hk => (.inl (.inr hk))))
  have HK := Aside0.mk (Kept.refl w (fun k_ => P0_ k_ ∨ P1_ k_))
  have HW0 := Aside0.mk hB.size
  have HB := Aside0.mk hB
  clear hB
  have H : (if (l1.length : Int) > 0 then (some ((([] : List (S84))), l1, 11)) else (if (l0.length : Int) > 12 then (some ((([] : List (S84))), (([] : List ByteArray)), 7)) else (some (l0, (([] : List ByteArray)), 0)))) = some (r1, r2, r3) := h
  clear h
  by_cases c3 : (l1.length : Int) > 0
  · rw [if_pos c3] at H
    have c3b0 : decide (0 < (l1.length : Int)) = true := decide_eq_true c3
    have c3b1 : decide (0 < l1.length) = true := decide_eq_true (by omega)
    clear c3
    obtain ⟨y533, hy533⟩ : ∃ y_ : List (S84), y_ = (([] : List (S84))) := ⟨_, rfl⟩
    replace H : (some (y533, l1, 11)) = some (r1, r2, r3) := by (rw [hy533]; with_reducible exact H)
    have Ny533 := Aside0.mk hy533
    clear hy533
    simp only [Option.some.injEq, Prod.mk.injEq] at H
    obtain ⟨rfl, rfl, rfl⟩ := H
    obtain ⟨Ao4, co4, eo4⟩ := Kd.R_slice HO1.out
    subst eo4
    go_enter Tryz.func43, Tryz.ntmps43
    go_wp2_with (((with_reducible refine gate_dst (N := 10) rfl ?_); refine Kd.R_lit k84 _ 84 ?hg (N := 10) ?hd (xs := ([] : List (S84))) (inner := []) (ok := fun _ => True) (okp := fun _ => True) ?hr ?hp (fun _ hk => hk) trivial (Below.refl _ _) (Nat.le_refl _) (by simp) ?_; (case hd => rfl); (case hg => rfl); (case hr => (go_simp; done)); (case hp => exact (Reps.none _ _)); intro v534 w5 ho6 hb hg_ hnew_; clear hg_ hnew_; (rw [← Ny533.out] at ho6); have n0_ := Aside0.mk (Kd.R_elder' (pR HO0) (Kd.R_base ho6) hb); have n1_ := Aside0.mk (Kd.R_below (pR HO1) hb); have n2_ := Aside0.mk (Kd.R_lower (Kd.R_new' (Kd.R_newM (M := fun k_ => ((P0_ k_ ∨ P1_ k_) ∨ w.heap.size ≤ k_)) ho6 (by exact HK.out.1) (fun k_ h_ => .inr h_)) (Kd.R_lt (pR HO0))) (below_size (w := w0) bW)); have n3_ := Aside0.mk (Kept.below (S := (fun k_ => P0_ k_ ∨ P1_ k_)) (by repeat ((with_reducible exact HK.out))) hb); have n4_ := Aside0.mk (below_step (w := w0) bW hb); clear HO0; clear HO1; clear HK; clear HB; have HO0 := n0_; have HO1 := n1_; have HO535 := n2_; have HK := n3_; have HB := n4_; clear n0_ n1_ n2_ n3_ n4_; clear hb ho6))
    go_ret3
    exact ⟨_, _, by rfl, by exact Kd.R_mono HO535.out (fun _ hk => hk.1.1), by exact HO1.out, by repeat ((with_reducible exact HB.out)), by repeat ((with_reducible exact HK.out))⟩
  · rw [if_neg c3] at H
    have c3b0 : decide (0 < (l1.length : Int)) = false := decide_eq_false c3
    have c3b1 : decide (0 < l1.length) = false := decide_eq_false (by omega)
    clear c3
    by_cases c7 : (l0.length : Int) > 12
    · rw [if_pos c7] at H
      have c7b0 : decide (12 < (l0.length : Int)) = true := decide_eq_true c7
      have c7b1 : decide (12 < l0.length) = true := decide_eq_true (by omega)
      clear c7
      obtain ⟨y536, hy536⟩ : ∃ y_ : List (S84), y_ = (([] : List (S84))) := ⟨_, rfl⟩
      replace H : (some (y536, (([] : List ByteArray)), 7)) = some (r1, r2, r3) := by (rw [hy536]; with_reducible exact H)
      have Ny536 := Aside0.mk hy536
      clear hy536
      obtain ⟨y539, hy539⟩ : ∃ y_ : List ByteArray, y_ = (([] : List ByteArray)) := ⟨_, rfl⟩
      replace H : (some (y536, y539, 7)) = some (r1, r2, r3) := by (rw [hy539]; with_reducible exact H)
      have Ny539 := Aside0.mk hy539
      clear hy539
      simp only [Option.some.injEq, Prod.mk.injEq] at H
      obtain ⟨rfl, rfl, rfl⟩ := H
      obtain ⟨Ao8, co8, eo8⟩ := Kd.R_slice HO1.out
      subst eo8
      obtain ⟨Ao9, co9, eo9⟩ := Kd.R_slice HO0.out
      subst eo9
      go_enter Tryz.func43, Tryz.ntmps43
      go_wp2_with (first | ((with_reducible refine gate_dst (N := 15) rfl ?_); refine Kd.R_lit k84 _ 84 ?hg (N := 15) ?hd (xs := ([] : List (S84))) (inner := []) (ok := fun _ => True) (okp := fun _ => True) ?hr ?hp (fun _ hk => hk) trivial (Below.refl _ _) (Nat.le_refl _) (by simp) ?_; (case hd => rfl); (case hg => rfl); (case hr => (go_simp; done)); (case hp => exact (Reps.none _ _)); intro v537 w10 ho11 hb hg_ hnew_; clear hg_ hnew_; (rw [← Ny536.out] at ho11); have n0_ := Aside0.mk (Kd.R_elder' (pR HO0) (Kd.R_base ho11) hb); have n1_ := Aside0.mk (Kd.R_below (pR HO1) hb); have n2_ := Aside0.mk (Kd.R_lower (Kd.R_new' (Kd.R_newM (M := fun k_ => ((P0_ k_ ∨ P1_ k_) ∨ w.heap.size ≤ k_)) ho11 (by exact HK.out.1) (fun k_ h_ => .inr h_)) (Kd.R_lt (pR HO0))) (below_size (w := w0) bW)); have n3_ := Aside0.mk (Kept.below (S := (fun k_ => P0_ k_ ∨ P1_ k_)) (by repeat ((with_reducible exact HK.out))) hb); have n4_ := Aside0.mk (below_step (w := w0) bW hb); clear HO0; clear HO1; clear HK; clear HB; have HO0 := n0_; have HO1 := n1_; have HO538 := n2_; have HK := n3_; have HB := n4_; clear n0_ n1_ n2_ n3_ n4_; clear hb ho11) | ((with_reducible refine gate_dst (N := 16) rfl ?_); refine Kd.R_lit Kd.string _ 9 ?hg (N := 16) ?hd (xs := ([] : List ByteArray)) (inner := []) (ok := fun _ => True) (okp := fun _ => True) ?hr ?hp (fun _ hk => hk) trivial (Below.refl _ _) (Nat.le_refl _) (by simp) ?_; (case hd => rfl); (case hg => rfl); (case hr => (go_simp; done)); (case hp => exact (Reps.none _ _)); intro v540 w12 ho13 hb hg_ hnew_; clear hg_ hnew_; (rw [← Ny539.out] at ho13); have n0_ := Aside0.mk (Kd.R_below (pR HO0) hb); have n1_ := Aside0.mk (Kd.R_elder' (pR HO1) (Kd.R_base ho13) hb); have n2_ := Aside0.mk (Kd.R_below (pR HO538) hb); have n3_ := Aside0.mk (Kd.R_lower (Kd.R_new' (Kd.R_newM (M := fun k_ => ((P0_ k_ ∨ P1_ k_) ∨ w.heap.size ≤ k_)) ho13 (by exact HK.out.1) (fun k_ h_ => .inr h_)) (Kd.R_lt (pR HO1))) (below_size (w := w0) bW)); have n4_ := Aside0.mk (Kept.below (S := (fun k_ => P0_ k_ ∨ P1_ k_)) (by repeat ((with_reducible exact HK.out))) hb); have n5_ := Aside0.mk (below_step (w := w0) bW hb); clear HO0; clear HO1; clear HO538; clear HK; clear HB; have HO0 := n0_; have HO1 := n1_; have HO538 := n2_; have HO541 := n3_; have HK := n4_; have HB := n5_; clear n0_ n1_ n2_ n3_ n4_ n5_; clear hb ho13))
      go_ret3
      exact ⟨_, _, by rfl, by exact Kd.R_mono HO538.out (fun _ hk => hk.1.1), by exact Kd.R_mono HO541.out (fun _ hk => hk.1.1), by repeat ((with_reducible exact HB.out)), by repeat ((with_reducible exact HK.out))⟩
    · rw [if_neg c7] at H
      have c7b0 : decide (12 < (l0.length : Int)) = false := decide_eq_false c7
      have c7b1 : decide (12 < l0.length) = false := decide_eq_false (by omega)
      clear c7
      obtain ⟨y542, hy542⟩ : ∃ y_ : List ByteArray, y_ = (([] : List ByteArray)) := ⟨_, rfl⟩
      replace H : (some (l0, y542, 0)) = some (r1, r2, r3) := by (rw [hy542]; with_reducible exact H)
      have Ny542 := Aside0.mk hy542
      clear hy542
      simp only [Option.some.injEq, Prod.mk.injEq] at H
      obtain ⟨rfl, rfl, rfl⟩ := H
      obtain ⟨Ao14, co14, eo14⟩ := Kd.R_slice HO1.out
      subst eo14
      obtain ⟨Ao15, co15, eo15⟩ := Kd.R_slice HO0.out
      subst eo15
      go_enter Tryz.func43, Tryz.ntmps43
      go_wp2_with (((with_reducible refine gate_dst (N := 18) rfl ?_); refine Kd.R_lit Kd.string _ 9 ?hg (N := 18) ?hd (xs := ([] : List ByteArray)) (inner := []) (ok := fun _ => True) (okp := fun _ => True) ?hr ?hp (fun _ hk => hk) trivial (Below.refl _ _) (Nat.le_refl _) (by simp) ?_; (case hd => rfl); (case hg => rfl); (case hr => (go_simp; done)); (case hp => exact (Reps.none _ _)); intro v543 w16 ho17 hb hg_ hnew_; clear hg_ hnew_; (rw [← Ny542.out] at ho17); have n0_ := Aside0.mk (Kd.R_below (pR HO0) hb); have n1_ := Aside0.mk (Kd.R_elder' (pR HO1) (Kd.R_base ho17) hb); have n2_ := Aside0.mk (Kd.R_lower (Kd.R_new' (Kd.R_newM (M := fun k_ => ((P0_ k_ ∨ P1_ k_) ∨ w.heap.size ≤ k_)) ho17 (by exact HK.out.1) (fun k_ h_ => .inr h_)) (Kd.R_lt (pR HO1))) (below_size (w := w0) bW)); have n3_ := Aside0.mk (Kept.below (S := (fun k_ => P0_ k_ ∨ P1_ k_)) (by repeat ((with_reducible exact HK.out))) hb); have n4_ := Aside0.mk (below_step (w := w0) bW hb); clear HO0; clear HO1; clear HK; clear HB; have HO0 := n0_; have HO1 := n1_; have HO544 := n2_; have HK := n3_; have HB := n4_; clear n0_ n1_ n2_ n3_ n4_; clear hb ho17))
      go_ret3
      exact ⟨_, _, by rfl, by exact HO0.out, by exact Kd.R_mono HO544.out (fun _ hk => hk.1.1), by repeat ((with_reducible exact HB.out)), by repeat ((with_reducible exact HK.out))⟩
end Go.Proofs.YtblejbgkcgajgaaGreat.Q
end

section
namespace Go.Proofs.YtblejbgkcgajgaaGreat.Q
open Go.RowKit Go.Proofs.YtblejbgkcgajgaaGreatW.PrintWords Go.Proofs.YtblejbgkcgajgaaGreatW.PrintLast Go.Proofs.YtblejbgkcgajgaaGreatW.PrintMore
attribute [local go_sem] max2_int min2_int max_two min_two max_three min_three max_four min_four   -- for this text's walks alone
set_option linter.unusedVariables false
set_option linter.unusedSimpArgs false
attribute [local go_sem] bin_leq bin_gtr bin_geq
def spec_MergeCommits.f (k : Nat) (l0 : List (S64)) (a1 : Int) (a2 : Int) : Option ((List (S84)) × List ByteArray × Int) := if (l0.length : Int) > 4096 then (some ((([] : List (S84))), (([] : List ByteArray)), 2)) else ((spec_l03Ask.f k l0 (([a1, a2] : List Int))).bind fun t554 => (if t554 = 0 then ((spec_l03Base.f k l0 a1 a2).bind fun t555 => (if 0 ≤ (wrap64 (t555 - 1)) then (if (wrap64 (t555 - 1)) < (l0.length : Int) then (if 0 ≤ (wrap64 (a1 - 1)) then (if (wrap64 (a1 - 1)) < (l0.length : Int) then (if 0 ≤ (wrap64 (a2 - 1)) then (if (wrap64 (a2 - 1)) < (l0.length : Int) then ((spec_l02Merge.f k ((rd_T64 l0 (wrap64 (t555 - 1))).f1) ((rd_T64 l0 (wrap64 (a1 - 1))).f1) ((rd_T64 l0 (wrap64 (a2 - 1))).f1)).bind fun bt559 => ((spec_l02Told.f bt559.1 bt559.2).bind fun bt565 => (some (bt565.1, bt565.2.1, bt565.2.2)))) else (none)) else (none)) else (none)) else (none)) else (none)) else (none))) else (some ((([] : List (S84))), (([] : List ByteArray)), t554))))
def spec_MergeCommits.T6 : Bool × List (List Nat × List Nat) := (true, [([], []), ([], []), ([], []), ([], []), ([1, 2, 3], [1, 2, 3]), ([4], [4]), ([0, 5], [0, 5]), ([6], [6]), ([7], [7]), ([], []), ([], []), ([10], [10]), ([9, 11], [9, 11]), ([12], [12]), ([13], [13]), ([], []), ([], []), ([16], [16]), ([15, 17], [15, 17]), ([18], [18]), ([19], [19]), ([8, 14, 20, 4], [8, 14, 20]), ([21], [21]), ([22], [22]), ([22], [22]), ([23, 21, 0, 1, 2, 3, 4, 5, 6, 7, 8, 9, 10, 11, 12, 13, 14, 15, 16, 17, 18, 19, 20, 21, 22, 23], [23]), ([24, 25, 0, 1, 2, 3, 4, 5, 6, 7, 8, 9, 10, 11, 12, 13, 14, 15, 16, 17, 18, 19, 20, 21, 22, 23, 24, 25], [24])])
def spec_MergeCommits.B6 : List Nat := [0, 0, 0, 0, 14, 30, 63, 127, 255, 0, 0, 1024, 3584, 7680, 15872, 0, 0, 65536, 229376, 491520, 1015808, 2097151, 4194303, 8388607, 8388607, 16777215, 67108863]
theorem spec_MergeCommits.tab6 : rtab .any (opsOf Tryz.f17 6) = spec_MergeCommits.T6 := by kernel_rfl
theorem spec_MergeCommits.bits6 : waitsOk spec_MergeCommits.T6.2 spec_MergeCommits.B6 = true := by kernel_rfl
set_option maxHeartbeats 8000000 in
set_option maxRecDepth 100000 in
theorem spec_MergeCommits.calls (k : Nat) (A0 : Option Addr) (c0 : Nat) (l0 : List (S64)) (a1 : Int) (a2 : Int) (r1 : List (S84)) (r2 : List ByteArray) (r3 : Int) (w : World) (hr0 : Kd.C k64 w A0 l0.length l0) (hc0 : l0.length ≤ c0) (h : spec_MergeCommits.f k l0 a1 a2 = some (r1, r2, r3)) :
    Calls Tryz.prog 17 #[.slice A0 l0.length c0, .int .i64 a1, .int .i64 a2] w fun e w' => ∃ v0_ v1_ : Value, e = .returned (.tuple #[v0_, v1_, .int .i64 r3]) ∧ Kd.R k84 84 w' w.heap.size (fun _ => True) v0_ r1 ∧ Kd.R Kd.string 9 w' w.heap.size (fun _ => True) v1_ r2 ∧ Below w.heap.size w w' := by
  have HR0 := Aside0.mk hr0
  have HC0 := Aside0.mk hc0
  clear hr0 hc0
  have HB := Aside0.mk (Below.refl w.heap.size w)
  have H : (if (l0.length : Int) > 4096 then (some ((([] : List (S84))), (([] : List ByteArray)), 2)) else ((spec_l03Ask.f k l0 (([a1, a2] : List Int))).bind fun t554 => (if t554 = 0 then ((spec_l03Base.f k l0 a1 a2).bind fun t555 => (if 0 ≤ (wrap64 (t555 - 1)) then (if (wrap64 (t555 - 1)) < (l0.length : Int) then (if 0 ≤ (wrap64 (a1 - 1)) then (if (wrap64 (a1 - 1)) < (l0.length : Int) then (if 0 ≤ (wrap64 (a2 - 1)) then (if (wrap64 (a2 - 1)) < (l0.length : Int) then ((spec_l02Merge.f k ((rd_T64 l0 (wrap64 (t555 - 1))).f1) ((rd_T64 l0 (wrap64 (a1 - 1))).f1) ((rd_T64 l0 (wrap64 (a2 - 1))).f1)).bind fun bt559 => ((spec_l02Told.f bt559.1 bt559.2).bind fun bt565 => (some (bt565.1, bt565.2.1, bt565.2.2)))) else (none)) else (none)) else (none)) else (none)) else (none)) else (none))) else (some ((([] : List (S84))), (([] : List ByteArray)), t554))))) = some (r1, r2, r3) := h
  clear h
  by_cases c4 : (l0.length : Int) > 4096
  · rw [if_pos c4] at H
    have c4b0 : decide (4096 < (l0.length : Int)) = true := decide_eq_true c4
    have c4b1 : decide (4096 < l0.length) = true := decide_eq_true (by omega)
    clear c4
    obtain ⟨y545, hy545⟩ : ∃ y_ : List (S84), y_ = (([] : List (S84))) := ⟨_, rfl⟩
    replace H : (some (y545, (([] : List ByteArray)), 2)) = some (r1, r2, r3) := by (rw [hy545]; with_reducible exact H)
    have Ny545 := Aside0.mk hy545
    clear hy545
    obtain ⟨y548, hy548⟩ : ∃ y_ : List ByteArray, y_ = (([] : List ByteArray)) := ⟨_, rfl⟩
    replace H : (some (y545, y548, 2)) = some (r1, r2, r3) := by (rw [hy548]; with_reducible exact H)
    have Ny548 := Aside0.mk hy548
    clear hy548
    simp only [Option.some.injEq, Prod.mk.injEq] at H
    obtain ⟨rfl, rfl, rfl⟩ := H
    go_enter Tryz.func17, Tryz.ntmps17
    go_wp2_with (first | ((with_reducible refine gate_dst (N := 15) rfl ?_); refine Kd.R_lit k84 _ 84 ?hg (N := 15) ?hd (xs := ([] : List (S84))) (inner := []) (ok := fun _ => True) (okp := fun _ => True) ?hr ?hp (fun _ hk => hk) trivial (Below.refl _ _) (Nat.le_refl _) (by simp) ?_; (case hd => rfl); (case hg => rfl); (case hr => (go_simp; done)); (case hp => exact (Reps.none _ _)); intro v546 w5 ho6 hb hg_ hnew_; clear hg_ hnew_; (rw [← Ny545.out] at ho6); have n0_ := Aside0.mk (Kd.R_lower ho6 (below_size (w := w) bW)); have n1_ := Aside0.mk (below_step (w := w) bW hb); clear HB; have HO547 := n0_; have HB := n1_; clear n0_ n1_; clear hb ho6) | ((with_reducible refine gate_dst (N := 16) rfl ?_); refine Kd.R_lit Kd.string _ 9 ?hg (N := 16) ?hd (xs := ([] : List ByteArray)) (inner := []) (ok := fun _ => True) (okp := fun _ => True) ?hr ?hp (fun _ hk => hk) trivial (Below.refl _ _) (Nat.le_refl _) (by simp) ?_; (case hd => rfl); (case hg => rfl); (case hr => (go_simp; done)); (case hp => exact (Reps.none _ _)); intro v549 w7 ho8 hb hg_ hnew_; clear hg_ hnew_; (rw [← Ny548.out] at ho8); have n0_ := Aside0.mk (Kd.R_below (pR HO547) hb); have n1_ := Aside0.mk (Kd.R_lower ho8 (below_size (w := w) bW)); have n2_ := Aside0.mk (below_step (w := w) bW hb); clear HO547; clear HB; have HO547 := n0_; have HO550 := n1_; have HB := n2_; clear n0_ n1_ n2_; clear hb ho8))
    go_ret3
    exact ⟨_, _, by rfl, by exact HO547.out, by exact HO550.out, bW⟩
  · rw [if_neg c4] at H
    have c4b0 : decide (4096 < (l0.length : Int)) = false := decide_eq_false c4
    have c4b1 : decide (4096 < l0.length) = false := decide_eq_false (by omega)
    clear c4
    obtain ⟨y551, hy551⟩ : ∃ y_ : List Int, y_ = (([a1, a2] : List Int)) := ⟨_, rfl⟩
    replace H : ((spec_l03Ask.f k l0 y551).bind fun t554 => (if t554 = 0 then ((spec_l03Base.f k l0 a1 a2).bind fun t555 => (if 0 ≤ (wrap64 (t555 - 1)) then (if (wrap64 (t555 - 1)) < (l0.length : Int) then (if 0 ≤ (wrap64 (a1 - 1)) then (if (wrap64 (a1 - 1)) < (l0.length : Int) then (if 0 ≤ (wrap64 (a2 - 1)) then (if (wrap64 (a2 - 1)) < (l0.length : Int) then ((spec_l02Merge.f k ((rd_T64 l0 (wrap64 (t555 - 1))).f1) ((rd_T64 l0 (wrap64 (a1 - 1))).f1) ((rd_T64 l0 (wrap64 (a2 - 1))).f1)).bind fun bt559 => ((spec_l02Told.f bt559.1 bt559.2).bind fun bt565 => (some (bt565.1, bt565.2.1, bt565.2.2)))) else (none)) else (none)) else (none)) else (none)) else (none)) else (none))) else (some ((([] : List (S84))), (([] : List ByteArray)), t554)))) = some (r1, r2, r3) := by (rw [hy551]; with_reducible exact H)
    have Ny551 := Aside0.mk hy551
    clear hy551
    replace H := Option.bind_eq_some_iff.mp H
    obtain ⟨t554, A90, H⟩ := H
    replace H : (if t554 = 0 then ((spec_l03Base.f k l0 a1 a2).bind fun t555 => (if 0 ≤ (wrap64 (t555 - 1)) then (if (wrap64 (t555 - 1)) < (l0.length : Int) then (if 0 ≤ (wrap64 (a1 - 1)) then (if (wrap64 (a1 - 1)) < (l0.length : Int) then (if 0 ≤ (wrap64 (a2 - 1)) then (if (wrap64 (a2 - 1)) < (l0.length : Int) then ((spec_l02Merge.f k ((rd_T64 l0 (wrap64 (t555 - 1))).f1) ((rd_T64 l0 (wrap64 (a1 - 1))).f1) ((rd_T64 l0 (wrap64 (a2 - 1))).f1)).bind fun bt559 => ((spec_l02Told.f bt559.1 bt559.2).bind fun bt565 => (some (bt565.1, bt565.2.1, bt565.2.2)))) else (none)) else (none)) else (none)) else (none)) else (none)) else (none))) else (some ((([] : List (S84))), (([] : List ByteArray)), t554))) = some (r1, r2, r3) := H
    have A9 := Aside0.mk A90
    clear A90
    by_cases c10 : t554 = 0
    · rw [if_pos c10] at H
      have c10b0 : (t554 == 0) = true := beq_iff_eq.mpr c10
      have c10b1 : (t554 != 0) = false := bne_eq_false_iff_eq.mpr c10
      clear c10
      replace H := Option.bind_eq_some_iff.mp H
      obtain ⟨t555, A110, H⟩ := H
      replace H : (if 0 ≤ (wrap64 (t555 - 1)) then (if (wrap64 (t555 - 1)) < (l0.length : Int) then (if 0 ≤ (wrap64 (a1 - 1)) then (if (wrap64 (a1 - 1)) < (l0.length : Int) then (if 0 ≤ (wrap64 (a2 - 1)) then (if (wrap64 (a2 - 1)) < (l0.length : Int) then ((spec_l02Merge.f k ((rd_T64 l0 (wrap64 (t555 - 1))).f1) ((rd_T64 l0 (wrap64 (a1 - 1))).f1) ((rd_T64 l0 (wrap64 (a2 - 1))).f1)).bind fun bt559 => ((spec_l02Told.f bt559.1 bt559.2).bind fun bt565 => (some (bt565.1, bt565.2.1, bt565.2.2)))) else (none)) else (none)) else (none)) else (none)) else (none)) else (none)) = some (r1, r2, r3) := H
      have A11 := Aside0.mk A110
      clear A110
      obtain ⟨ji12, hji12⟩ : ∃ j_ : Int, (wrap64 (t555 - 1)) = j_ := ⟨_, rfl⟩
      replace H : (if 0 ≤ (ji12) then (if (ji12) < (l0.length : Int) then (if 0 ≤ (wrap64 (a1 - 1)) then (if (wrap64 (a1 - 1)) < (l0.length : Int) then (if 0 ≤ (wrap64 (a2 - 1)) then (if (wrap64 (a2 - 1)) < (l0.length : Int) then ((spec_l02Merge.f k ((rd_T64 l0 (ji12)).f1) ((rd_T64 l0 (wrap64 (a1 - 1))).f1) ((rd_T64 l0 (wrap64 (a2 - 1))).f1)).bind fun bt559 => ((spec_l02Told.f bt559.1 bt559.2).bind fun bt565 => (some (bt565.1, bt565.2.1, bt565.2.2)))) else (none)) else (none)) else (none)) else (none)) else (none)) else (none)) = some (r1, r2, r3) := by (rw [hji12] at H; exact H)
      have hji12w : (IntKind.i64.wrap (t555 - 1)) = ji12 := (i64_w _).trans hji12
      by_cases c13 : 0 ≤ (ji12)
      · rw [if_pos c13] at H
        have c13b0 : decide (0 ≤ (ji12)) = true := decide_eq_true c13
        clear c13
        by_cases c14 : (ji12) < (l0.length : Int)
        · rw [if_pos c14] at H
          have c14b0 : decide ((ji12) < (l0.length : Int)) = true := decide_eq_true c14
          clear c14
          obtain ⟨ji15, hji15⟩ : ∃ j_ : Int, (wrap64 (a1 - 1)) = j_ := ⟨_, rfl⟩
          replace H : (if 0 ≤ (ji15) then (if (ji15) < (l0.length : Int) then (if 0 ≤ (wrap64 (a2 - 1)) then (if (wrap64 (a2 - 1)) < (l0.length : Int) then ((spec_l02Merge.f k ((rd_T64 l0 (ji12)).f1) ((rd_T64 l0 (ji15)).f1) ((rd_T64 l0 (wrap64 (a2 - 1))).f1)).bind fun bt559 => ((spec_l02Told.f bt559.1 bt559.2).bind fun bt565 => (some (bt565.1, bt565.2.1, bt565.2.2)))) else (none)) else (none)) else (none)) else (none)) = some (r1, r2, r3) := by (rw [hji15] at H; exact H)
          have hji15w : (IntKind.i64.wrap (a1 - 1)) = ji15 := (i64_w _).trans hji15
          by_cases c16 : 0 ≤ (ji15)
          · rw [if_pos c16] at H
            have c16b0 : decide (0 ≤ (ji15)) = true := decide_eq_true c16
            clear c16
            by_cases c17 : (ji15) < (l0.length : Int)
            · rw [if_pos c17] at H
              have c17b0 : decide ((ji15) < (l0.length : Int)) = true := decide_eq_true c17
              clear c17
              obtain ⟨ji18, hji18⟩ : ∃ j_ : Int, (wrap64 (a2 - 1)) = j_ := ⟨_, rfl⟩
              replace H : (if 0 ≤ (ji18) then (if (ji18) < (l0.length : Int) then ((spec_l02Merge.f k ((rd_T64 l0 (ji12)).f1) ((rd_T64 l0 (ji15)).f1) ((rd_T64 l0 (ji18)).f1)).bind fun bt559 => ((spec_l02Told.f bt559.1 bt559.2).bind fun bt565 => (some (bt565.1, bt565.2.1, bt565.2.2)))) else (none)) else (none)) = some (r1, r2, r3) := by (rw [hji18] at H; exact H)
              have hji18w : (IntKind.i64.wrap (a2 - 1)) = ji18 := (i64_w _).trans hji18
              by_cases c19 : 0 ≤ (ji18)
              · rw [if_pos c19] at H
                have c19b0 : decide (0 ≤ (ji18)) = true := decide_eq_true c19
                clear c19
                by_cases c20 : (ji18) < (l0.length : Int)
                · rw [if_pos c20] at H
                  have c20b0 : decide ((ji18) < (l0.length : Int)) = true := decide_eq_true c20
                  clear c20
                  replace H := Option.bind_eq_some_iff.mp H
                  obtain ⟨⟨t559, t560⟩, A210, H⟩ := H
                  replace H : ((spec_l02Told.f t559 t560).bind fun bt565 => (some (bt565.1, bt565.2.1, bt565.2.2))) = some (r1, r2, r3) := H
                  have A21 := Aside0.mk A210
                  clear A210
                  replace H := Option.bind_eq_some_iff.mp H
                  obtain ⟨⟨t565, t568, t571⟩, A220, H⟩ := H
                  replace H : (some (t565, t568, t571)) = some (r1, r2, r3) := H
                  have A22 := Aside0.mk A220
                  clear A220
                  simp only [Option.some.injEq, Prod.mk.injEq] at H
                  obtain ⟨rfl, rfl, rfl⟩ := H
                  go_enter Tryz.func17, Tryz.ntmps17
                  try go_wp2_with (first | ((with_reducible refine gate_dst (N := 20) rfl ?_); refine Kd.R_lit (Kd.int .i64) _ 3 ?hg (N := 20) ?hd (xs := ([a1, a2] : List Int)) (inner := [.int .i64 a1, .int .i64 a2]) (ok := fun _ => True) (okp := fun _ => True) ?hr ?hp (fun _ hk => hk) trivial (Below.refl _ _) (Nat.le_refl _) (by simp) ?_; (case hd => rfl); (case hg => rfl); (case hr => (go_simp; done)); (case hp => exact (Reps.one (show Kd.M (Kd.int .i64) _ _ _ a1 [.int .i64 a1] from rfl) (Reps.one (show Kd.M (Kd.int .i64) _ _ _ a2 [.int .i64 a2] from rfl) (Reps.none _ _)))); intro v552 w23 ho24 hb hg_ hnew_; clear hg_ hnew_; (rw [← Ny551.out] at ho24); have n0_ := Aside0.mk (Kd.R_lower ho24 (below_size (w := w) bW)); have n1_ := Aside0.mk (below_step (w := w) bW hb); clear HB; have HO553 := n0_; have HB := n1_; clear n0_ n1_; clear hb ho24; obtain ⟨Ao25, co25, eo25⟩ := Kd.R_slice HO553.out; subst eo25) | ((with_reducible refine gate_callee (f := 40) rfl ?_); refine goesL_ (some 21) rfl rfl Tryz.func40 (by kernel_rfl) rfl #[.slice A0 l0.length c0, .slice Ao25 y551.length co25] rfl gA ?_; (with_reducible refine (spec_l03Ask.calls k _ _ l0 _ _ y551 t554 _ ?side1 ?side2 ?side3 ?side4 A9.out).mono ?_); (case side1 => exact cB HR0); (case side2 => exact HC0.out); (case side3 => repeat (exact (Kd.R_reads' HO553.out).2.2)); (case side4 => exact (Kd.R_reads' HO553.out).2.1); rintro e w26 ⟨rfl, hb⟩; refine ⟨_, rfl, ?_⟩; have n0_ := Aside0.mk (Kd.R_below (pR HO553) hb); have n1_ := Aside0.mk (below_step (w := w) bW hb); clear HO553; clear HB; have HO553 := n0_; have HB := n1_; clear n0_ n1_; (try clear hb)))
                  have n0_ := Aside0.mk (Kd.R_drew HO553.out)
                  have n1_ := Aside0.mk (below_drew1 HB.out)
                  clear HO553
                  clear HB
                  have HO553 := n0_
                  have HB := n1_
                  clear n0_ n1_
                  have p557 : 0 ≤ ((ji15) : Int) := odt
                  have q557 : (ji15) < (l0.length : Int) := odt
                  obtain ⟨ad557, A557_0, c557_0, A557_1, c557_1, e557, hx557_0, hx557_1, hl557_0, hi557_0, hl557_1, hi557_1⟩ := at_T64 HR0.out (ji15) p557 q557
                  have hw557_1 := hx557_1
                  have hw557_0 := hx557_0
                  cases e557
                  replace hx557_0 := (HB.out.cell (World.block_lt_of_cell? w _ hx557_0)).trans hx557_0
                  replace hx557_1 := (HB.out.cell (World.block_lt_of_cell? w _ hx557_1)).trans hx557_1
                  have HR557_0 := Aside0.mk hi557_0
                  have HC557_0 := Aside0.mk hl557_0
                  clear hi557_0 hl557_0
                  have HR557_1 := Aside0.mk hi557_1
                  have HC557_1 := Aside0.mk hl557_1
                  clear hi557_1 hl557_1
                  replace p557 := eq_true p557
                  replace q557 := eq_true q557
                  have p558 : 0 ≤ ((ji18) : Int) := odt
                  have q558 : (ji18) < (l0.length : Int) := odt
                  obtain ⟨ad558, A558_0, c558_0, A558_1, c558_1, e558, hx558_0, hx558_1, hl558_0, hi558_0, hl558_1, hi558_1⟩ := at_T64 HR0.out (ji18) p558 q558
                  have hw558_1 := hx558_1
                  have hw558_0 := hx558_0
                  obtain rfl : ad557 = ad558 := (by injection e558)
                  replace hx558_0 := (HB.out.cell (World.block_lt_of_cell? w _ hx558_0)).trans hx558_0
                  replace hx558_1 := (HB.out.cell (World.block_lt_of_cell? w _ hx558_1)).trans hx558_1
                  have HR558_0 := Aside0.mk hi558_0
                  have HC558_0 := Aside0.mk hl558_0
                  clear hi558_0 hl558_0
                  have HR558_1 := Aside0.mk hi558_1
                  have HC558_1 := Aside0.mk hl558_1
                  clear hi558_1 hl558_1
                  replace p558 := eq_true p558
                  replace q558 := eq_true q558
                  have p556 : 0 ≤ ((ji12) : Int) := odt
                  have q556 : (ji12) < (l0.length : Int) := odt
                  obtain ⟨ad556, A556_0, c556_0, A556_1, c556_1, e556, hx556_0, hx556_1, hl556_0, hi556_0, hl556_1, hi556_1⟩ := at_T64 HR0.out (ji12) p556 q556
                  have hw556_1 := hx556_1
                  have hw556_0 := hx556_0
                  obtain rfl : ad557 = ad556 := (by injection e556)
                  replace hx556_0 := (HB.out.cell (World.block_lt_of_cell? w _ hx556_0)).trans hx556_0
                  replace hx556_1 := (HB.out.cell (World.block_lt_of_cell? w _ hx556_1)).trans hx556_1
                  have HR556_0 := Aside0.mk hi556_0
                  have HC556_0 := Aside0.mk hl556_0
                  clear hi556_0 hl556_0
                  have HR556_1 := Aside0.mk hi556_1
                  have HC556_1 := Aside0.mk hl556_1
                  clear hi556_1 hl556_1
                  replace p556 := eq_true p556
                  replace q556 := eq_true q556
                  refine start_ (n := 27) (S := fun w' => w'.cell? (ad557.add (((ji15)).toNat * 2)) = some (.slice A557_0 ((rd_T64 l0 (ji15)).f0).length c557_0) ∧ w'.cell? ⟨(ad557.add (((ji15)).toNat * 2)).block, (ad557.add (((ji15)).toNat * 2)).off + 1, none⟩ = some (.slice A557_1 ((rd_T64 l0 (ji15)).f1).length c557_1) ∧ w'.cell? (ad557.add (((ji18)).toNat * 2)) = some (.slice A558_0 ((rd_T64 l0 (ji18)).f0).length c558_0) ∧ w'.cell? ⟨(ad557.add (((ji18)).toNat * 2)).block, (ad557.add (((ji18)).toNat * 2)).off + 1, none⟩ = some (.slice A558_1 ((rd_T64 l0 (ji18)).f1).length c558_1) ∧ w'.cell? (ad557.add (((ji12)).toNat * 2)) = some (.slice A556_0 ((rd_T64 l0 (ji12)).f0).length c556_0) ∧ w'.cell? ⟨(ad557.add (((ji12)).toNat * 2)).block, (ad557.add (((ji12)).toNat * 2)).off + 1, none⟩ = some (.slice A556_1 ((rd_T64 l0 (ji12)).f1).length c556_1)) (ds := []) (bs 27 0) (by kernel_rfl) rfl rfl ⟨((HB.out.cell (World.block_lt_of_cell? w _ hw557_0)).trans hw557_0), ((HB.out.cell (World.block_lt_of_cell? w _ hw557_1)).trans hw557_1), ((HB.out.cell (World.block_lt_of_cell? w _ hw558_0)).trans hw558_0), ((HB.out.cell (World.block_lt_of_cell? w _ hw558_1)).trans hw558_1), ((HB.out.cell (World.block_lt_of_cell? w _ hw556_0)).trans hw556_0), ((HB.out.cell (World.block_lt_of_cell? w _ hw556_1)).trans hw556_1)⟩ (fun hHeld => ?_); refine with_tabW spec_MergeCommits.tab6 spec_MergeCommits.bits6 (fun HT_ HW_ => ?_)
                  generalize w26.drew = w27 at HO553 HB HR556_0 HR556_1 HR557_0 HR557_1 HR558_0 HR558_1 hx556_0 hx556_1 hx557_0 hx557_1 hx558_0 hx558_1 hHeld ⊢
                  refine pz 0 28 (bs 27 1) HT_ ?_
                  refine pz 1 29 (bs 27 3) HT_ ?_
                  refine pz 2 30 (bs 27 7) HT_ ?_
                  refine pz 3 31 (bs 27 15) HT_ ?_
                  refine pz 9 37 (bs 27 527) HT_ ?_
                  refine pz 10 38 (bs 27 1551) HT_ ?_
                  refine pz 11 39 (bs 27 3599) HT_ ?_
                  refine pz 12 40 (bs 27 7695) HT_ ?_
                  refine pz 13 41 (bs 27 15887) HT_ ?_
                  refine pz 15 43 (bs 27 48655) HT_ ?_
                  refine pz 16 44 (bs 27 114191) HT_ ?_
                  refine pz 17 45 (bs 27 245263) HT_ ?_
                  refine pz 18 46 (bs 27 507407) HT_ ?_
                  refine pz 19 47 (bs 27 1031695) HT_ ?_
                  refine tz 14 42 (bs 27 1048079) HT_ HW_ hHeld ?_
                  refine tz 20 48 (bs 27 2096655) HT_ HW_ hHeld ?_
                  refine one_ (i := 4) (N := some 32) (bs 27 2096671) rfl rfl (one_of HT_.out (by kernel_rfl)) (by decide) (fun K hK => ?_)
                  refine goes_ Tryz.func42 (by kernel_rfl) rfl #[.slice (some ad557) l0.length c0, .int .i64 a1, .int .i64 a2] (by rfl) rfl rfl gA ?_
                  with_reducible refine (spec_l03Base.calls k _ _ l0 a1 a2 t555 _ ?side1 ?side2 A11.out).mono ?_
                  (case side1 => exact cB HR0)
                  (case side2 => exact HC0.out)
                  rintro e w28 ⟨rfl, hb⟩
                  refine ⟨_, rfl, ?_⟩
                  have n0_ := Aside0.mk (Kd.R_below (pR HO553) hb)
                  have n1_ := Aside0.mk (below_step (w := w) bW hb)
                  clear HO553
                  clear HB
                  have HO553 := n0_
                  have HB := n1_
                  clear n0_ n1_
                  (try clear hb)
                  refine hK.out _ _ ⟨((HB.out.cell (World.block_lt_of_cell? w _ hw557_0)).trans hw557_0), ((HB.out.cell (World.block_lt_of_cell? w _ hw557_1)).trans hw557_1), ((HB.out.cell (World.block_lt_of_cell? w _ hw558_0)).trans hw558_0), ((HB.out.cell (World.block_lt_of_cell? w _ hw558_1)).trans hw558_1), ((HB.out.cell (World.block_lt_of_cell? w _ hw556_0)).trans hw556_0), ((HB.out.cell (World.block_lt_of_cell? w _ hw556_1)).trans hw556_1)⟩ (fun hHeld => ?_)
                  clear hK K
                  refine norm_ (a' := ?_) ?_ ?_
                  rotate_left
                  · show Act.put _ (some 32) _ = _
                    simp only [Act.put, List.setIfInBounds_toArray, List.set_cons_zero, List.set_cons_succ, i64_w, i32_w]
                    rfl
                  refine pz 5 33 (bs 27 2096703) HT_ ?_
                  refine pz 6 34 (bs 27 2096767) HT_ ?_
                  refine pz 7 35 (bs 27 2096895) HT_ ?_
                  refine tz 8 36 (bs 27 2097151) HT_ HW_ hHeld ?_
                  refine one_ (i := 21) (N := some 49) (bs 27 4194303) rfl rfl (one_of HT_.out (by kernel_rfl)) (by decide) (fun K hK => ?_)
                  refine goes_ Tryz.func41 (by kernel_rfl) rfl #[.slice A556_1 ((rd_T64 l0 (ji12)).f1).length c556_1, .slice A557_1 ((rd_T64 l0 (ji15)).f1).length c557_1, .slice A558_1 ((rd_T64 l0 (ji18)).f1).length c558_1] (by rfl) rfl rfl (by (try simp only [List.map_toArray, List.map_cons, List.map_nil]); rfl) ?_
                  with_reducible refine (spec_l02Merge.calls k _ _ ((rd_T64 l0 (ji12)).f1) _ _ ((rd_T64 l0 (ji15)).f1) _ _ ((rd_T64 l0 (ji18)).f1) t559 t560 _ ?side1 ?side2 ?side3 ?side4 ?side5 ?side6 A21.out).mono ?_
                  (case side1 => exact cB HR556_1)
                  (case side2 => exact HC556_1.out)
                  (case side3 => exact cB HR557_1)
                  (case side4 => exact HC557_1.out)
                  (case side5 => exact cB HR558_1)
                  (case side6 => exact HC558_1.out)
                  rintro e w29 ⟨v561, v563, rfl, ho0, ho1, hb⟩
                  refine ⟨_, rfl, ?_⟩
                  have n0_ := Aside0.mk (Kd.R_below (pR HO553) hb)
                  have n1_ := Aside0.mk (Kd.R_lower ho0 (below_size (w := w) bW))
                  have n2_ := Aside0.mk (Kd.R_lower ho1 (below_size (w := w) bW))
                  have n3_ := Aside0.mk (below_step (w := w) bW hb)
                  clear HO553
                  clear HB
                  have HO553 := n0_
                  have HO562 := n1_
                  have HO564 := n2_
                  have HB := n3_
                  clear n0_ n1_ n2_ n3_
                  (try clear hb)
                  (try clear ho0)
                  (try clear ho1)
                  refine hK.out _ _ ⟨((HB.out.cell (World.block_lt_of_cell? w _ hw557_0)).trans hw557_0), ((HB.out.cell (World.block_lt_of_cell? w _ hw557_1)).trans hw557_1), ((HB.out.cell (World.block_lt_of_cell? w _ hw558_0)).trans hw558_0), ((HB.out.cell (World.block_lt_of_cell? w _ hw558_1)).trans hw558_1), ((HB.out.cell (World.block_lt_of_cell? w _ hw556_0)).trans hw556_0), ((HB.out.cell (World.block_lt_of_cell? w _ hw556_1)).trans hw556_1)⟩ (fun hHeld => ?_)
                  clear hK K
                  refine norm_ (a' := ?_) ?_ ?_
                  rotate_left
                  · show Act.put _ (some 49) _ = _
                    simp only [Act.put, List.setIfInBounds_toArray, List.set_cons_zero, List.set_cons_succ, i64_w, i32_w]
                    rfl
                  refine pz 22 27 (bs 27 8388607) HT_ ?_
                  refine pz 23 50 (bs 27 16777215) HT_ ?_
                  refine pz 24 51 (bs 27 33554431) HT_ ?_
                  refine pz 25 10 (bs 27 67108863) HT_ ?_
                  refine pz 26 11 (bs 27 134217727) HT_ ?_
                  refine done_ (done_of HT_.out (by kernel_rfl)) ?_
                  obtain ⟨Ao30, co30, eo30⟩ := Kd.R_slice HO562.out
                  subst eo30
                  obtain ⟨Ao31, co31, eo31⟩ := Kd.R_slice HO564.out
                  subst eo31
                  try go_wp2_with (((with_reducible refine gate_callee (f := 43) rfl ?_); refine goesL_ (some 54) rfl rfl Tryz.func43 (by kernel_rfl) rfl #[.slice Ao30 t559.length co30, .slice Ao31 t560.length co31] rfl gA ?_; (with_reducible refine (spec_l02Told.calls (fun k_ => some k_ = (.slice Ao30 t559.length co30 : Value).ownBlock) (.slice Ao30 t559.length co30) t559 (fun k_ => some k_ = (.slice Ao31 t560.length co31 : Value).ownBlock) (.slice Ao31 t560.length co31) t560 t565 t568 t571 w _ ?side1 ?side2 ?side3 A22.out).mono ?_); (case side1 => repeat ((with_reducible exact HB.out))); (case side2 => exact Kd.R_tight rfl HO562.out); (case side3 => exact Kd.R_tight rfl HO564.out); rintro e w32 ⟨v566, v569, rfl, ho0, ho1, hb, hkp⟩; refine ⟨_, rfl, ?_⟩; have n0_ := Aside0.mk (Kd.R_mono (ok' := fun k_ => True) (Kd.R_keptB ((Kd.R_apart' (Kd.R_apart' HO553.out (Kd.R_typed HO562.out) (by decide)) (Kd.R_typed HO564.out) (by decide))) hkp (fun k_ hk_ hs_ => Or.elim hs_ (fun e_ => (hk_.1.2) e_) (fun e_ => (hk_.2) e_))) (fun k_ hk_ => trivial)); have n1_ := Aside0.mk (Kd.R_mono (ok' := fun k_ => True) ho0 (fun k_ hk_ => trivial)); have n2_ := Aside0.mk (Kd.R_mono (ok' := fun k_ => True) ho1 (fun k_ hk_ => trivial)); have n3_ := Aside0.mk (hb); clear HO553; clear HB; clear HO562; clear HO564; have HO553 := n0_; have HO567 := n1_; have HO570 := n2_; have HB := n3_; clear n0_ n1_ n2_ n3_; (try clear hb); (try clear hkp); (try clear ho0); (try clear ho1)))
                  go_ret3
                  exact ⟨_, _, by rfl, by exact HO567.out, by exact HO570.out, bW⟩
                · rw [if_neg c20] at H
                  exact absurd H (by simp)
              · rw [if_neg c19] at H
                exact absurd H (by simp)
            · rw [if_neg c17] at H
              exact absurd H (by simp)
          · rw [if_neg c16] at H
            exact absurd H (by simp)
        · rw [if_neg c14] at H
          exact absurd H (by simp)
      · rw [if_neg c13] at H
        exact absurd H (by simp)
    · rw [if_neg c10] at H
      have c10b0 : (t554 == 0) = false := beq_eq_false_iff_ne.mpr c10
      have c10b1 : (t554 != 0) = true := bne_iff_ne.mpr c10
      obtain ⟨y572, hy572⟩ : ∃ y_ : List (S84), y_ = (([] : List (S84))) := ⟨_, rfl⟩
      replace H : (some (y572, (([] : List ByteArray)), t554)) = some (r1, r2, r3) := by (rw [hy572]; with_reducible exact H)
      have Ny572 := Aside0.mk hy572
      clear hy572
      obtain ⟨y575, hy575⟩ : ∃ y_ : List ByteArray, y_ = (([] : List ByteArray)) := ⟨_, rfl⟩
      replace H : (some (y572, y575, t554)) = some (r1, r2, r3) := by (rw [hy575]; with_reducible exact H)
      have Ny575 := Aside0.mk hy575
      clear hy575
      simp only [Option.some.injEq, Prod.mk.injEq] at H
      obtain ⟨rfl, rfl, rfl⟩ := H
      go_enter Tryz.func17, Tryz.ntmps17
      go_wp2_with (first | ((with_reducible refine gate_dst (N := 20) rfl ?_); refine Kd.R_lit (Kd.int .i64) _ 3 ?hg (N := 20) ?hd (xs := ([a1, a2] : List Int)) (inner := [.int .i64 a1, .int .i64 a2]) (ok := fun _ => True) (okp := fun _ => True) ?hr ?hp (fun _ hk => hk) trivial (Below.refl _ _) (Nat.le_refl _) (by simp) ?_; (case hd => rfl); (case hg => rfl); (case hr => (go_simp; done)); (case hp => exact (Reps.one (show Kd.M (Kd.int .i64) _ _ _ a1 [.int .i64 a1] from rfl) (Reps.one (show Kd.M (Kd.int .i64) _ _ _ a2 [.int .i64 a2] from rfl) (Reps.none _ _)))); intro v552 w33 ho34 hb hg_ hnew_; clear hg_ hnew_; (rw [← Ny551.out] at ho34); have n0_ := Aside0.mk (Kd.R_lower ho34 (below_size (w := w) bW)); have n1_ := Aside0.mk (below_step (w := w) bW hb); clear HB; have HO553 := n0_; have HB := n1_; clear n0_ n1_; clear hb ho34; obtain ⟨Ao35, co35, eo35⟩ := Kd.R_slice HO553.out; subst eo35) | ((with_reducible refine gate_callee (f := 40) rfl ?_); refine goesL_ (some 21) rfl rfl Tryz.func40 (by kernel_rfl) rfl #[.slice A0 l0.length c0, .slice Ao35 y551.length co35] rfl gA ?_; (with_reducible refine (spec_l03Ask.calls k _ _ l0 _ _ y551 t554 _ ?side1 ?side2 ?side3 ?side4 A9.out).mono ?_); (case side1 => exact cB HR0); (case side2 => exact HC0.out); (case side3 => repeat (exact (Kd.R_reads' HO553.out).2.2)); (case side4 => exact (Kd.R_reads' HO553.out).2.1); rintro e w36 ⟨rfl, hb⟩; refine ⟨_, rfl, ?_⟩; have n0_ := Aside0.mk (Kd.R_below (pR HO553) hb); have n1_ := Aside0.mk (below_step (w := w) bW hb); clear HO553; clear HB; have HO553 := n0_; have HB := n1_; clear n0_ n1_; (try clear hb)) | ((with_reducible refine gate_dst (N := 24) rfl ?_); refine Kd.R_lit k84 _ 84 ?hg (N := 24) ?hd (xs := ([] : List (S84))) (inner := []) (ok := fun _ => True) (okp := fun _ => True) ?hr ?hp (fun _ hk => hk) trivial (Below.refl _ _) (Nat.le_refl _) (by simp) ?_; (case hd => rfl); (case hg => rfl); (case hr => (go_simp; done)); (case hp => exact (Reps.none _ _)); intro v573 w37 ho38 hb hg_ hnew_; clear hg_ hnew_; (rw [← Ny572.out] at ho38); have n0_ := Aside0.mk (Kd.R_below (pR HO553) hb); have n1_ := Aside0.mk (Kd.R_lower ho38 (below_size (w := w) bW)); have n2_ := Aside0.mk (below_step (w := w) bW hb); clear HO553; clear HB; have HO553 := n0_; have HO574 := n1_; have HB := n2_; clear n0_ n1_ n2_; clear hb ho38) | ((with_reducible refine gate_dst (N := 25) rfl ?_); refine Kd.R_lit Kd.string _ 9 ?hg (N := 25) ?hd (xs := ([] : List ByteArray)) (inner := []) (ok := fun _ => True) (okp := fun _ => True) ?hr ?hp (fun _ hk => hk) trivial (Below.refl _ _) (Nat.le_refl _) (by simp) ?_; (case hd => rfl); (case hg => rfl); (case hr => (go_simp; done)); (case hp => exact (Reps.none _ _)); intro v576 w39 ho40 hb hg_ hnew_; clear hg_ hnew_; (rw [← Ny575.out] at ho40); have n0_ := Aside0.mk (Kd.R_below (pR HO553) hb); have n1_ := Aside0.mk (Kd.R_below (pR HO574) hb); have n2_ := Aside0.mk (Kd.R_lower ho40 (below_size (w := w) bW)); have n3_ := Aside0.mk (below_step (w := w) bW hb); clear HO553; clear HO574; clear HB; have HO553 := n0_; have HO574 := n1_; have HO577 := n2_; have HB := n3_; clear n0_ n1_ n2_ n3_; clear hb ho40))
      go_ret3
      exact ⟨_, _, by rfl, by exact HO574.out, by exact HO577.out, bW⟩
end Go.Proofs.YtblejbgkcgajgaaGreat.Q
end

section
namespace Go.Proofs.YtblejbgkcgajgaaGreat.Q
open Go.RowKit Go.Proofs.YtblejbgkcgajgaaGreatW.PrintWords Go.Proofs.YtblejbgkcgajgaaGreatW.PrintLast Go.Proofs.YtblejbgkcgajgaaGreatW.PrintMore
attribute [local go_sem] max2_int min2_int max_two min_two max_three min_three max_four min_four   -- for this text's walks alone
set_option linter.unusedVariables false
set_option linter.unusedSimpArgs false
attribute [local go_sem] bin_leq bin_gtr bin_geq
def impl_Commit.f (l0 : List (S64)) : Option (Bool) := some (decide ((l0.length : Int) ≤ 4096))
set_option maxHeartbeats 8000000 in
set_option maxRecDepth 100000 in
theorem impl_Commit.calls (A0 : Option Addr) (c0 : Nat) (l0 : List (S64)) (r : Bool) (w : World) (hr0 : Kd.C k64 w A0 l0.length l0) (hc0 : l0.length ≤ c0) (h : impl_Commit.f l0 = some r) :
    Calls Tryz.prog 71 #[.slice A0 l0.length c0] w fun e w' => e = .returned (.bool r) ∧ Drawn0 w w' := by
  have HR0 := Aside0.mk hr0
  have HC0 := Aside0.mk hc0
  clear hr0 hc0
  have H : (some (decide ((l0.length : Int) ≤ 4096))) = some r := h
  clear h
  obtain rfl := Option.some.inj H
  go_enter Tryz.func71, Tryz.ntmps71
  go_wp2
  go_ret
  exact ⟨by first | rfl | (simp; done) | (simp [*]; done), by repeat (first | exact Drawn0.refl _ | apply Drawn0.step)⟩
end Go.Proofs.YtblejbgkcgajgaaGreat.Q
end

section
namespace Go.Proofs.YtblejbgkcgajgaaGreat.Q
open Go.RowKit Go.Proofs.YtblejbgkcgajgaaGreatW.PrintWords Go.Proofs.YtblejbgkcgajgaaGreatW.PrintLast Go.Proofs.YtblejbgkcgajgaaGreatW.PrintMore
attribute [local go_sem] max2_int min2_int max_two min_two max_three min_three max_four min_four   -- for this text's walks alone
set_option linter.unusedVariables false
set_option linter.unusedSimpArgs false
attribute [local go_sem] bin_leq bin_gtr bin_geq
def idxI {α : Type} (p : α → Bool) (l : List α) : Int := match l.findIdx? p with | some i => (i : Int) | none => -1
theorem idxI_none {α : Type} {p : α → Bool} {l : List α} (h : ∀ j (hj : j < l.length), p l[j] = false) : idxI p l = -1 := by
  unfold idxI
  rw [List.findIdx?_eq_none_iff.mpr]
  intro x hx
  obtain ⟨j, hj, rfl⟩ := List.mem_iff_getElem.mp hx
  exact h j hj
theorem idxI_some {α : Type} {p : α → Bool} {l : List α} {i : Nat} (hi : i < l.length) (h : ∀ j (hj : j < i), p (l[j]'(by omega)) = false) (hp : p l[i] = true) : idxI p l = i := by
  unfold idxI
  rw [List.findIdx?_eq_some_iff_getElem.mpr ⟨hi, hp, fun j hj => by simp [h j hj]⟩]
theorem idxI_all {α : Type} (p : α → Bool) (l : List α) : (!decide (0 ≤ idxI (fun x => !p x) l)) = l.all p := by
  unfold idxI
  cases h : l.findIdx? (fun x => !p x) with
  | none =>
    have h2 := List.findIdx?_eq_none_iff.mp h
    have : l.all p = true := List.all_eq_true.mpr (fun x hx => by simpa using h2 x hx)
    rw [this]; decide
  | some i =>
    obtain ⟨hi, hp, _⟩ := List.findIdx?_eq_some_iff_getElem.mp h
    have : l.all p = false := by
      rw [Bool.eq_false_iff]
      intro ha
      have := List.all_eq_true.mp ha l[i] (List.getElem_mem hi)
      simp [this] at hp
    rw [this]
    have h0 : (0 : Int) ≤ (i : Int) := by omega
    simp [h0]
theorem enters_ {P : Program} {f : FuncId} {fn : Func} {c : Code} (hf : P.funcs[f]? = some fn) (hname : (fn.name == "runtime.NumGoroutine") = false) (hb : fn.body = some c) : ∀ (args : Array Value) (w : World), (callFunc f args).run P w = .ok (.enter f args) w := by
  intro args w
  have h1 : fn.name ≠ "runtime.NumGoroutine" := by simpa using hname
  simp [callFunc, hf, h1, hb, mark]
end Go.Proofs.YtblejbgkcgajgaaGreat.Q
end

section
namespace Go.Proofs.YtblejbgkcgajgaaGreat.Q
open Go.RowKit Go.Proofs.YtblejbgkcgajgaaGreatW.PrintWords Go.Proofs.YtblejbgkcgajgaaGreatW.PrintLast Go.Proofs.YtblejbgkcgajgaaGreatW.PrintMore
attribute [local go_sem] max2_int min2_int max_two min_two max_three min_three max_four min_four   -- for this text's walks alone
set_option linter.unusedVariables false
set_option linter.unusedSimpArgs false
attribute [local go_sem] bin_leq bin_gtr bin_geq
def impl_within.f (a0 : Int) (a1 : Int) (a2 : Int) : Option (Bool) := if a1 ≤ a0 then (some (decide (a0 ≤ a2))) else (some false)
set_option maxHeartbeats 8000000 in
set_option maxRecDepth 100000 in
theorem impl_within.calls (a0 : Int) (a1 : Int) (a2 : Int) (r : Bool) (w : World) (h : impl_within.f a0 a1 a2 = some r) :
    Calls Tryz.prog 58 #[.int .i64 a0, .int .i64 a1, .int .i64 a2] w fun e w' => e = .returned (.bool r) ∧ Drawn0 w w' := by
  have H : (if a1 ≤ a0 then (some (decide (a0 ≤ a2))) else (some false)) = some r := h
  clear h
  by_cases c4 : a1 ≤ a0
  · rw [if_pos c4] at H
    have c4b0 : decide (a1 ≤ a0) = true := decide_eq_true c4
    clear c4
    obtain rfl := Option.some.inj H
    go_enter Tryz.func58, Tryz.ntmps58
    go_wp2
    go_ret
    exact ⟨by first | rfl | (simp; done) | (simp [*]; done), by repeat (first | exact Drawn0.refl _ | apply Drawn0.step)⟩
  · rw [if_neg c4] at H
    have c4b0 : decide (a1 ≤ a0) = false := decide_eq_false c4
    clear c4
    obtain rfl := Option.some.inj H
    go_enter Tryz.func58, Tryz.ntmps58
    go_wp2
    go_ret
    exact ⟨by first | rfl | (simp; done) | (simp [*]; done), by repeat (first | exact Drawn0.refl _ | apply Drawn0.step)⟩
end Go.Proofs.YtblejbgkcgajgaaGreat.Q
end

section
namespace Go.Proofs.YtblejbgkcgajgaaGreat.Q
open Go.RowKit Go.Proofs.YtblejbgkcgajgaaGreatW.PrintWords Go.Proofs.YtblejbgkcgajgaaGreatW.PrintLast Go.Proofs.YtblejbgkcgajgaaGreatW.PrintMore
attribute [local go_sem] max2_int min2_int max_two min_two max_three min_three max_four min_four   -- for this text's walks alone
set_option linter.unusedVariables false
set_option linter.unusedSimpArgs false
attribute [local go_sem] bin_leq bin_gtr bin_geq
def Asks_byte (g : Nat) (lb : Array Value) (p : Int → Bool) (w : World) (l : List Int) : Prop :=
  ∀ (W : World) (x : Int), Below w.heap.size w W → x ∈ l → Calls Tryz.prog g (#[.int .u8 x] ++ lb) W fun e w' => e = .returned (.bool (p x)) ∧ Below W.heap.size W w'
set_option maxHeartbeats 2000000 in
set_option maxRecDepth 100000 in
theorem idxF_byte (g : Nat) (lb : Array Value) (eg : ∀ args w, (callFunc g args).run Tryz.prog w = .ok (.enter g args) w) (p : Int → Bool) (A0 : Option Addr) (c0 : Nat) (l0 : List Int) (w : World) (hr0 : Kd.C (Kd.int .u8) w A0 l0.length l0) (hc0 : l0.length ≤ c0) (hp : Asks_byte g lb p w l0) :
    Calls Tryz.prog 130 #[.slice A0 l0.length c0, .func (.func g) #[] lb] w fun e w' => e = .returned (.int .i64 (idxI p l0)) ∧ Below w.heap.size w w' := by
  have HM : l0.length ≤ 9223372036854775807 := hr0.2.1
  have HR0 := Aside0.mk hr0
  have HP := Aside0.mk hp
  clear hr0 hc0 hp
  go_enter Tryz.func130, Tryz.ntmps130
  go_wp2
  go_loopg [8] l0.length (fun gk v8 w' => ∃ kk : Nat, kk ≤ l0.length ∧ l0.length - kk ≤ gk ∧ v8 = .int .i64 kk ∧ Aside0 (∀ j (hj : j < l0.length), j < kk → p l0[j] = false) ∧ Aside0 (Below w.heap.size w w'))
  case atStart => exact ⟨0, Nat.zero_le _, by omega, rfl, ⟨fun j hj h => absurd h (Nat.not_lt_zero _)⟩, ⟨Below.refl _ _⟩⟩
  case round =>
    obtain ⟨kk, hkk, hg, rfl, HA, HB⟩ := hrel
    by_cases hlt : kk < l0.length
    · have hltz : (kk : Int) < (l0.length : Int) := by omega
      have HRW := Aside0.mk (Kd.C_below HR0.out HB.out)
      obtain ⟨ad, e1, hx⟩ := Kd.at_int HRW.out (kk : Int) (by omega) hltz
      cases e1
      have ex : rd l0 (kk : Int) = l0[kk] := by simp [rd, List.getD_eq_getElem?_getD, List.getElem?_eq_getElem hlt]
      rw [ex] at hx
      simp only [Int.toNat_natCast] at hx
      have hcall := HP.out _ l0[kk] HB.out (List.getElem_mem hlt)
      obtain ⟨y, hy⟩ : ∃ y, y = l0[kk] := ⟨_, rfl⟩
      rw [← hy] at hx hcall
      have HY := Aside0.mk hy
      clear hy ex
      cases hq : p y with
      | true =>
        rw [hq] at hcall
        have HC := Aside0.mk hcall
        have HQ := Aside0.mk hq
        clear hcall hq
        go_wp2_with ((with_reducible refine HC.out.mono ?_); rintro e w' ⟨rfl, hb'⟩)
        go_ret
        refine ⟨?_, below_then HB.out HB.out.size hb'⟩
        rw [idxI_some hlt (fun j hj => HA.out j (by omega) hj) (by rw [← HY.out]; exact HQ.out)]; rfl
      | false =>
        rw [hq] at hcall
        have HC := Aside0.mk hcall
        have HQ := Aside0.mk hq
        clear hcall hq
        go_wp2_with ((with_reducible refine HC.out.mono ?_); rintro e w' ⟨rfl, hb'⟩)
        go_roundg (l0.length - (kk + 1))
        case measure => omega
        case rel =>
          refine ⟨kk + 1, by omega, by omega, by go_num, ⟨fun j hj h => ?_⟩, ⟨below_then HB.out HB.out.size hb'⟩⟩
          by_cases e : j = kk
          · subst e
            rw [← HY.out]; exact HQ.out
          · exact HA.out j hj (by omega)
    · have hltz : ¬ (kk : Int) < (l0.length : Int) := by omega
      obtain rfl : kk = l0.length := by omega
      go_wp2
      go_ret
      exact ⟨by rw [idxI_none (fun j hj => HA.out j hj (by omega))]; rfl, HB.out⟩
end Go.Proofs.YtblejbgkcgajgaaGreat.Q
end

section
namespace Go.Proofs.YtblejbgkcgajgaaGreat.Q
open Go.RowKit Go.Proofs.YtblejbgkcgajgaaGreatW.PrintWords Go.Proofs.YtblejbgkcgajgaaGreatW.PrintLast Go.Proofs.YtblejbgkcgajgaaGreatW.PrintMore
attribute [local go_sem] max2_int min2_int max_two min_two max_three min_three max_four min_four   -- for this text's walks alone
set_option linter.unusedVariables false
set_option linter.unusedSimpArgs false
attribute [local go_sem] bin_leq bin_gtr bin_geq
set_option maxHeartbeats 2000000 in
set_option maxRecDepth 100000 in
theorem hasF_byte (g : Nat) (lb : Array Value) (eg : ∀ args w, (callFunc g args).run Tryz.prog w = .ok (.enter g args) w) (p : Int → Bool) (A0 : Option Addr) (c0 : Nat) (l0 : List Int) (w : World) (hr0 : Kd.C (Kd.int .u8) w A0 l0.length l0) (hc0 : l0.length ≤ c0) (hp : Asks_byte g lb p w l0) :
    Calls Tryz.prog 109 #[.slice A0 l0.length c0, .func (.func g) #[] lb] w fun e w' => e = .returned (.bool (decide (0 ≤ idxI p l0))) ∧ Below w.heap.size w w' := by
  have HR0 := Aside0.mk hr0
  have HC0 := Aside0.mk hc0
  have HP := Aside0.mk hp
  have HE := Aside0.mk eg
  clear hr0 hc0 hp eg
  go_enter Tryz.func109, Tryz.ntmps109
  go_wp2_with (refine (idxF_byte g lb HE.out p A0 c0 l0 _ HR0.out HC0.out HP.out).mono ?_; rintro e w' ⟨rfl, hb⟩)
  go_ret
  exact ⟨rfl, hb⟩
theorem notF_byte (g : Nat) (lb : Array Value) (eg : ∀ args w, (callFunc g args).run Tryz.prog w = .ok (.enter g args) w) (p : Int → Bool) (l : List Int) (w : World) (B : Nat) (hB : B < w.heap.size) (hc : w.cell? ⟨B, 0, none⟩ = some (.func (.func g) #[] lb)) (hp : Asks_byte g lb p w l) :
    Asks_byte 110 #[.pointer (some ⟨B, 0, none⟩)] (fun x => !p x) w l := by
  intro W x hW hx
  have hc' : W.cell? ⟨B, 0, none⟩ = some (.func (.func g) #[] lb) := (hW.cell (p := ⟨B, 0, none⟩) hB).trans hc
  have hB' : B < W.heap.size := Nat.lt_of_lt_of_le hB hW.size
  have HC := Aside0.mk (hp W x hW hx)
  clear hp hx hc
  go_enter Tryz.func110, Tryz.ntmps110
  go_wp2_with (refine HC.out.mono ?_; rintro e w' ⟨rfl, hb⟩)
  go_ret
  exact ⟨rfl, hb⟩
set_option maxHeartbeats 2000000 in
set_option maxRecDepth 100000 in
theorem allF_byte (g : Nat) (lb : Array Value) (eg : ∀ args w, (callFunc g args).run Tryz.prog w = .ok (.enter g args) w) (p : Int → Bool) (A0 : Option Addr) (c0 : Nat) (l0 : List Int) (w : World) (hr0 : Kd.C (Kd.int .u8) w A0 l0.length l0) (hc0 : l0.length ≤ c0) (hp : Asks_byte g lb p w l0) :
    Calls Tryz.prog 86 #[.slice A0 l0.length c0, .func (.func g) #[] lb] w fun e w' => e = .returned (.bool (l0.all p)) ∧ Below w.heap.size w w' := by
  have e94 := idxI_all p l0
  have HN := Aside0.mk e94
  have HB0 : Below w.heap.size w (w.alloc (.cells #[.func (.func g) #[] lb] 117)) := (Below.refl _ _).alloc (Nat.le_refl _) _
  have HR0 := Aside0.mk (Kd.C_below hr0 HB0)
  have HP := Aside0.mk (notF_byte g lb eg p l0 (w.alloc (.cells #[.func (.func g) #[] lb] 117)) w.heap.size (by simp) (by simp) (fun W x hW hx => hp W x (below_then HB0 HB0.size hW) hx))
  have HC0 := Aside0.mk hc0
  have HBA := Aside0.mk HB0
  clear hr0 hc0 hp eg e94 HB0
  go_enter Tryz.func86, Tryz.ntmps86
  go_wp2_with (refine (hasF_byte 110 #[.pointer (some ⟨w.heap.size, 0, none⟩)] (enters_ Tryz.func110 (by kernel_rfl) rfl) (fun x => !p x) A0 c0 l0 _ HR0.out HC0.out HP.out).mono ?_; rintro e w' ⟨rfl, hb⟩)
  go_ret
  refine ⟨?_, below_then HBA.out HBA.out.size hb⟩
  show Ending.returned (.bool (!decide (0 ≤ idxI (fun x => !p x) l0))) = _
  rw [HN.out]
end Go.Proofs.YtblejbgkcgajgaaGreat.Q
end

section
namespace Go.Proofs.YtblejbgkcgajgaaGreat.Q
open Go.RowKit Go.Proofs.YtblejbgkcgajgaaGreatW.PrintWords Go.Proofs.YtblejbgkcgajgaaGreatW.PrintLast Go.Proofs.YtblejbgkcgajgaaGreatW.PrintMore
attribute [local go_sem] max2_int min2_int max_two min_two max_three min_three max_four min_four   -- for this text's walks alone
set_option linter.unusedVariables false
set_option linter.unusedSimpArgs false
attribute [local go_sem] bin_leq bin_gtr bin_geq
def impl_NameOK.f (a0 : ByteArray) : Option (Bool) := some (nameB a0)
theorem nameOK_asks (l : List Int) (w : World) : Asks_byte 87 #[] (fun c => letB c || digB c) w l := by
  intro W x hW hx
  have A1 := Aside0.mk (impl_isLetter.calls x (letB x))
  have A2 := Aside0.mk (impl_isDigit.calls x (digB x))
  have F1 := Aside0.mk (letB_f x)
  have F2 := Aside0.mk (digB_f x)
  cases h1 : letB x with
  | true =>
    rw [h1] at A1 F1
    clear A2
    go_enter Tryz.func87, Tryz.ntmps87
    go_wp2_with (refine (A1.out _ F1.out).mono ?_; rintro e w' ⟨rfl, ⟨n, rfl⟩⟩)
    go_ret
    exact ⟨by first | rfl | simp [h1], pw_below_drewN (Below.refl _ _) _⟩
  | false =>
    rw [h1] at A1 F1
    go_enter Tryz.func87, Tryz.ntmps87
    go_wp2_with (first | (go_at_call 85; refine (A1.out _ F1.out).mono ?_; rintro e w' ⟨rfl, ⟨n, rfl⟩⟩) | (go_at_call 88; refine (A2.out _ F2.out).mono ?_; rintro e w' ⟨rfl, ⟨n, rfl⟩⟩))
    go_ret
    exact ⟨by first | rfl | simp [h1], by repeat (first | exact Below.refl _ _ | apply pw_below_drewN)⟩
set_option maxHeartbeats 4000000 in
set_option maxRecDepth 100000 in
theorem impl_NameOK.calls (a0 : ByteArray) (r : Bool) (w : World) (h : impl_NameOK.f a0 = some r) :
    Calls Tryz.prog 57 #[.string a0] w fun e w' => e = .returned (.bool r) ∧ Below w.heap.size w w' := by
  obtain rfl := Option.some.inj h
  clear h
  by_cases h1 : 1 ≤ a0.size ∧ a0.size ≤ 12
  · have F1 := Aside0.mk (show impl_within.f (a0.size : Int) 1 12 = some true by unfold impl_within.f; rw [if_pos (by omega), decide_eq_true (by omega)])
    have F2 := Aside0.mk (letB_f (bt a0 0))
    have i0 : (0 : Int) < (a0.size : Int) := by omega
    have hbt : ∀ h : 0 < a0.size, ((a0[0]'h).toNat : Int) = bt a0 0 := bt_at a0 0
    have j0 : 0 < a0.size := by omega
    cases h2 : letB (bt a0 0) with
    | true =>
      rw [h2] at F2
      have hcv := fun w => Go.Lib.run_convert_string_bytes (P := Tryz.prog) w 9 102 5 a0 Tryz.underlying9 Tryz.underlying102 Tryz.underlying5
      have R1 := Aside0.mk (show nameB a0 = (bytesL a0).all (fun c => letB c || digB c) by simp [nameB, h1.1, h1.2, h2])
      have hsz : a0.size ≤ 9223372036854775807 := by omega
      have hn := Aside0.mk h1
      clear h1
      go_enter Tryz.func57, Tryz.ntmps57
      go_wp2_with fail
      refine (impl_within.calls (a0.size : Int) 1 12 true _ F1.out).mono ?_
      rintro e w' ⟨rfl, ⟨nd, rfl⟩⟩
      go_wp2_with fail

      refine (impl_isLetter.calls (bt a0 0) true _ F2.out).mono ?_
      rintro e w' ⟨rfl, ⟨nd2, rfl⟩⟩
      go_wp2_with fail
      have HBx := below_bytes (w.drewN (nd + nd2)) a0 5
      have HBy : Below w.heap.size w (Go.Lib.bytesWorld (w.drewN (nd + nd2)) 5 a0) := below_then (pw_below_drewN (Below.refl _ _) _) (Nat.le_refl _) HBx
      have hA := allF_byte 87 #[] (enters_ Tryz.func87 (by kernel_rfl) rfl) (fun c => letB c || digB c) _ (grownCap (w.drewN (nd + nd2)) a0.size 0 5) (bytesL a0) (Go.Lib.bytesWorld (w.drewN (nd + nd2)) 5 a0) (bytesL_cells (w.drewN (nd + nd2)) a0 hsz) (by rw [bytesL_length]; exact grownCap_ge _ _ _ _) (nameOK_asks _ _)
      rw [bytesL_length] at hA
      refine hA.mono ?_
      rintro e w' ⟨rfl, hb⟩
      have hb2 := Aside0.mk (below_then HBy HBy.size hb)
      clear hb HBx HBy hA
      go_wp2
      go_ret
      exact ⟨by rw [R1.out]; rfl, hb2.out⟩
    | false =>
      rw [h2] at F2
      have R1 := Aside0.mk (show nameB a0 = false by simp [nameB, h2])
      have hn := Aside0.mk h1
      clear h1
      go_enter Tryz.func57, Tryz.ntmps57
      go_wp2_with fail
      refine (impl_within.calls (a0.size : Int) 1 12 true _ F1.out).mono ?_
      rintro e w' ⟨rfl, ⟨nd, rfl⟩⟩
      go_wp2_with fail
      refine (impl_isLetter.calls (bt a0 0) false _ F2.out).mono ?_
      rintro e w' ⟨rfl, ⟨nd2, rfl⟩⟩
      go_wp2
      go_ret
      exact ⟨by rw [R1.out]; rfl, by repeat (first | exact Below.refl _ _ | apply pw_below_drewN)⟩
  · have F1 := Aside0.mk (show impl_within.f (a0.size : Int) 1 12 = some false by
      unfold impl_within.f
      by_cases h3 : 1 ≤ (a0.size : Int)
      · rw [if_pos h3, decide_eq_false (by omega)]
      · rw [if_neg h3])
    have R1 := Aside0.mk (show nameB a0 = false by
      unfold nameB
      by_cases h3 : 1 ≤ a0.size
      · have h4 : ¬ a0.size ≤ 12 := by omega
        simp [h4]
      · simp [h3])
    clear h1
    go_enter Tryz.func57, Tryz.ntmps57
    go_wp2_with fail
    refine (impl_within.calls (a0.size : Int) 1 12 false _ F1.out).mono ?_
    rintro e w' ⟨rfl, ⟨nd, rfl⟩⟩
    go_wp2
    go_ret
    exact ⟨by rw [R1.out]; rfl, by repeat (first | exact Below.refl _ _ | apply pw_below_drewN)⟩
end Go.Proofs.YtblejbgkcgajgaaGreat.Q
end

section
namespace Go.Proofs.YtblejbgkcgajgaaGreat.Q
open Go.RowKit Go.Proofs.YtblejbgkcgajgaaGreatW.PrintWords Go.Proofs.YtblejbgkcgajgaaGreatW.PrintLast Go.Proofs.YtblejbgkcgajgaaGreatW.PrintMore
attribute [local go_sem] max2_int min2_int max_two min_two max_three min_three max_four min_four   -- for this text's walks alone
set_option linter.unusedVariables false
set_option linter.unusedSimpArgs false
attribute [local go_sem] bin_leq bin_gtr bin_geq
def impl_isValue.f (a0 : Int) : Option (Bool) := (impl_within.f a0 (-1000000) 1000000).bind fun t250 => (some t250)
set_option maxHeartbeats 8000000 in
set_option maxRecDepth 100000 in
theorem impl_isValue.calls (a0 : Int) (r : Bool) (w : World) (h : impl_isValue.f a0 = some r) :
    Calls Tryz.prog 141 #[.int .i64 a0] w fun e w' => e = .returned (.bool r) ∧ Drawn0 w w' := by
  have H : ((impl_within.f a0 (-1000000) 1000000).bind fun t250 => (some t250)) = some r := h
  clear h
  replace H := Option.bind_eq_some_iff.mp H
  obtain ⟨t250, A20, H⟩ := H
  replace H : (some t250) = some r := H
  have A2 := Aside0.mk A20
  clear A20
  obtain rfl := Option.some.inj H
  go_enter Tryz.func141, Tryz.ntmps141
  go_wp2_with (first | ((with_reducible refine gate_callee (f := 58) rfl ?_); refine goesL_ (some 4) rfl rfl Tryz.func58 (by kernel_rfl) rfl #[.int .i64 a0, .int .i64 (-1000000), .int .i64 1000000] rfl gA ?_; (with_reducible refine (impl_within.calls a0 (-1000000) 1000000 t250 _ A2.out).mono ?_); rintro e w' ⟨rfl, ⟨nd, rfl⟩⟩; refine ⟨_, rfl, ?_⟩))
  go_ret
  exact ⟨by first | rfl | (simp; done) | (simp [*]; done), by repeat (first | exact Drawn0.refl _ | apply Drawn0.step)⟩
end Go.Proofs.YtblejbgkcgajgaaGreat.Q
end
