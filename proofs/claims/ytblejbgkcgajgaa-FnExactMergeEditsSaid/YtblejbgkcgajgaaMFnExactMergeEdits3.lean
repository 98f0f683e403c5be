/- Parts of the proof of the law FnExactMergeEdits, joined into one text. -/
import Derived.Test.YtblejbgkcgajgaaMFnExactMergeEdits2
section
namespace Go.Proofs.Ytblejbgkcgajgaa.Q
open Go.RowKit Go.Proofs.YtblejbgkcgajgaaW.PrintWords Go.Proofs.YtblejbgkcgajgaaW.PrintLast Go.Proofs.YtblejbgkcgajgaaW.PrintMore
attribute [local go_sem] max2_int min2_int max_two min_two max_three min_three max_four min_four   -- for this text's walks alone
set_option linter.unusedVariables false
set_option linter.unusedSimpArgs false
attribute [local go_sem] bin_leq bin_gtr bin_geq
mutual
def spec_l01Diff.l0 : Nat → List (S55) → List (S55) → List (S62) → Int → Int → Option ((List (S62)))
  | 0, _, _, _, _, _ => none
  | k + 1, x0, x1, x5, x6, x7 => if x6 < (x0.length : Int) then (spec_l01Diff.j1 k x0 x1 x5 x6 x7 true) else (spec_l01Diff.j1 k x0 x1 x5 x6 x7 (decide (x7 < (x1.length : Int))))
def spec_l01Diff.j1 : Nat → List (S55) → List (S55) → List (S62) → Int → Int → Bool → Option ((List (S62)))
  | 0, _, _, _, _, _, _ => none
  | k + 1, x0, x1, x5, x6, x7, x18 => if x18 = true then (if x7 = (x1.length : Int) then (spec_l01Diff.j2 k x0 x1 x5 x6 x7 true) else (if x6 < (x0.length : Int) then (if 0 ≤ x6 then (if 0 ≤ x7 then (if x7 < (x1.length : Int) then (spec_l01Diff.j2 k x0 x1 x5 x6 x7 (Op.bytesLess (((rd_T55 x0 x6).f0).toList) (((rd_T55 x1 x7).f0).toList))) else (none)) else (none)) else (none)) else (spec_l01Diff.j2 k x0 x1 x5 x6 x7 false))) else (some x5)
def spec_l01Diff.j2 : Nat → List (S55) → List (S55) → List (S62) → Int → Int → Bool → Option ((List (S62)))
  | 0, _, _, _, _, _, _ => none
  | k + 1, x0, x1, x5, x6, x7, x48 => if x48 = true then (if 0 ≤ x6 then (if x6 < (x0.length : Int) then (if x5.length < 4398046511104 then (spec_l01Diff.l0 k x0 x1 (x5 ++ [(⟨(rd_T55 x0 x6).f0, 0, true⟩ : S62)]) (wrap64 (x6 + 1)) x7) else (none)) else (none)) else (none)) else (if x6 = (x0.length : Int) then (spec_l01Diff.j3 k x0 x1 x5 x6 x7 true) else (if 0 ≤ x7 then (if x7 < (x1.length : Int) then (if 0 ≤ x6 then (if x6 < (x0.length : Int) then (spec_l01Diff.j3 k x0 x1 x5 x6 x7 (Op.bytesLess (((rd_T55 x1 x7).f0).toList) (((rd_T55 x0 x6).f0).toList))) else (none)) else (none)) else (none)) else (none)))
def spec_l01Diff.j3 : Nat → List (S55) → List (S55) → List (S62) → Int → Int → Bool → Option ((List (S62)))
  | 0, _, _, _, _, _, _ => none
  | k + 1, x0, x1, x5, x6, x7, x83 => if x83 = true then (if 0 ≤ x7 then (if x7 < (x1.length : Int) then (if x5.length < 4398046511104 then (spec_l01Diff.l0 k x0 x1 (x5 ++ [(⟨(rd_T55 x1 x7).f0, (rd_T55 x1 x7).f1, false⟩ : S62)]) x6 (wrap64 (x7 + 1))) else (none)) else (none)) else (none)) else (if 0 ≤ x6 then (if x6 < (x0.length : Int) then (if 0 ≤ x7 then (if x7 < (x1.length : Int) then (if ((rd_T55 x0 x6).f1) = ((rd_T55 x1 x7).f1) then (spec_l01Diff.l0 k x0 x1 x5 (wrap64 (x6 + 1)) (wrap64 (x7 + 1))) else (if x5.length < 4398046511104 then (spec_l01Diff.l0 k x0 x1 (x5 ++ [(⟨(rd_T55 x1 x7).f0, (rd_T55 x1 x7).f1, false⟩ : S62)]) (wrap64 (x6 + 1)) (wrap64 (x7 + 1))) else (none))) else (none)) else (none)) else (none)) else (none))
end
def spec_l01Diff.f (k : Nat) (l0 : List (S55)) (l1 : List (S55)) : Option ((List (S62))) := spec_l01Diff.l0 k l0 l1 (([] : List (S62))) 0 0
def spec_l01Diff.T5 : Bool × List (List Nat × List Nat) := (true, [([], []), ([], []), ([0, 1], [0, 1]), ([2], [2]), ([3], [3]), ([], []), ([], []), ([5, 6], [5, 6]), ([7], [7]), ([8], [8]), ([4, 9], [4, 9])])
def spec_l01Diff.B5 : List Nat := [0, 0, 3, 7, 15, 0, 0, 96, 224, 480, 1023]
theorem spec_l01Diff.tab5 : rtab .any (opsOf Try.f34 5) = spec_l01Diff.T5 := by kernel_rfl
theorem spec_l01Diff.bits5 : waitsOk spec_l01Diff.T5.2 spec_l01Diff.B5 = true := by kernel_rfl
def spec_l01Diff.T6 : Bool × List (List Nat × List Nat) := (true, [([], []), ([], []), ([], []), ([1, 2], [1, 2]), ([3], [3]), ([4], [4]), ([], []), ([], []), ([6, 7], [6, 7]), ([8], [8]), ([9], [9]), ([5, 10], [5, 10]), ([11], [11]), ([0, 12], [0, 12]), ([13, 13, 0, 1, 2, 3, 4, 5, 6, 7, 8, 9, 10, 11, 12, 13], [0, 13])])
def spec_l01Diff.B6 : List Nat := [0, 0, 0, 6, 14, 30, 0, 0, 192, 448, 960, 2046, 4094, 8191, 16383]
theorem spec_l01Diff.tab6 : rtab .any (opsOf Try.f34 6) = spec_l01Diff.T6 := by kernel_rfl
theorem spec_l01Diff.bits6 : waitsOk spec_l01Diff.T6.2 spec_l01Diff.B6 = true := by kernel_rfl
def spec_l01Diff.T9 : Bool × List (List Nat × List Nat) := (true, [([], []), ([], []), ([1], [1]), ([0, 2], [0, 2]), ([3], [3]), ([4], [4]), ([4], [4]), ([6, 4], [4, 6]), ([5, 7, 4], [4, 5, 7]), ([8, 4, 4], [4, 8]), ([9], [9]), ([9], [9]), ([10, 11, 9], [9, 10, 11]), ([12, 9], [9, 12]), ([13, 9], [9, 13]), ([9], [9]), ([9], [9]), ([15, 16, 9], [9, 15, 16]), ([17, 9], [9, 17]), ([18, 9], [9, 18]), ([14, 19, 9], [9, 14, 19]), ([9, 20, 4], [4, 9, 20]), ([4, 21], [4, 21]), ([22, 9], [22])])
def spec_l01Diff.B9 : List Nat := [0, 0, 2, 7, 15, 31, 31, 95, 255, 511, 1023, 1023, 4095, 8191, 16383, 1023, 1023, 99327, 230399, 492543, 1048575, 2097151, 4194303, 8388607]
theorem spec_l01Diff.tab9 : rtab .any (opsOf Try.f34 9) = spec_l01Diff.T9 := by kernel_rfl
theorem spec_l01Diff.bits9 : waitsOk spec_l01Diff.T9.2 spec_l01Diff.B9 = true := by kernel_rfl
def spec_l01Diff.T12 : Bool × List (List Nat × List Nat) := (true, [([], []), ([], []), ([1], [1]), ([0, 2], [0, 2]), ([3], [3]), ([4], [4]), ([4], [4]), ([5, 6, 4], [4, 5, 6]), ([7, 4], [4, 7]), ([8, 4], [4, 8]), ([4], [4]), ([4], [4]), ([10, 11, 4], [4, 10, 11]), ([12, 4], [4, 12]), ([13, 4], [4, 13]), ([9, 14, 4], [4, 9, 14]), ([4, 15], [4, 15]), ([16, 4], [16])])
def spec_l01Diff.B12 : List Nat := [0, 0, 2, 7, 15, 31, 31, 127, 255, 511, 31, 31, 3103, 7199, 15391, 32767, 65535, 131071]
theorem spec_l01Diff.tab12 : rtab .any (opsOf Try.f34 12) = spec_l01Diff.T12 := by kernel_rfl
theorem spec_l01Diff.bits12 : waitsOk spec_l01Diff.T12.2 spec_l01Diff.B12 = true := by kernel_rfl
def spec_l01Diff.T13 : Bool × List (List Nat × List Nat) := (true, [([], []), ([], []), ([], []), ([1, 2], [1, 2]), ([3], [3]), ([4], [4]), ([], []), ([], []), ([6, 7], [6, 7]), ([8], [8]), ([9], [9]), ([5, 10], [5, 10]), ([11], [11]), ([0, 12], [0, 12]), ([13, 13, 0, 1, 2, 3, 4, 5, 6, 7, 8, 9, 10, 11, 12, 13], [0, 13])])
def spec_l01Diff.B13 : List Nat := [0, 0, 0, 6, 14, 30, 0, 0, 192, 448, 960, 2046, 4094, 8191, 16383]
theorem spec_l01Diff.tab13 : rtab .any (opsOf Try.f34 13) = spec_l01Diff.T13 := by kernel_rfl
theorem spec_l01Diff.bits13 : waitsOk spec_l01Diff.T13.2 spec_l01Diff.B13 = true := by kernel_rfl
set_option maxHeartbeats 8000000 in
set_option maxRecDepth 100000 in
theorem spec_l01Diff.calls (k : Nat) (A0 : Option Addr) (c0 : Nat) (l0 : List (S55)) (A1 : Option Addr) (c1 : Nat) (l1 : List (S55)) (r : List (S62)) (w : World) (hr0 : Kd.C k55 w A0 l0.length l0) (hc0 : l0.length ≤ c0) (hr1 : Kd.C k55 w A1 l1.length l1) (hc1 : l1.length ≤ c1) (h : spec_l01Diff.f k l0 l1 = some r) :
    Calls Try.prog 34 #[.slice A0 l0.length c0, .slice A1 l1.length c1] w fun e w' => ∃ v0_ : Value, e = .returned (v0_) ∧ Kd.R k62 62 w' w.heap.size (fun _ => True) v0_ r ∧ Below w.heap.size w w' := by
  have hu62 := Try.underlying62
  have HR0 := Aside0.mk hr0
  have HC0 := Aside0.mk hc0
  clear hr0 hc0
  have HR1 := Aside0.mk hr1
  have HC1 := Aside0.mk hc1
  clear hr1 hc1
  have HB := Aside0.mk (Below.refl w.heap.size w)
  have H : (spec_l01Diff.l0 k l0 l1 (([] : List (S62))) 0 0) = some r := h
  clear h
  obtain ⟨y114, hy114⟩ : ∃ y_ : List (S62), y_ = (([] : List (S62))) := ⟨_, rfl⟩
  replace H : (spec_l01Diff.l0 k l0 l1 y114 0 0) = some r := by (rw [hy114]; with_reducible exact H)
  have Ny114 := Aside0.mk hy114
  clear hy114
  have H' := Aside0.mk H
  clear H
  go_enter Try.func34, Try.ntmps34
  go_wp2_with (((with_reducible refine gate_dst (N := 8) rfl ?_); (try (refine gate_guard (by rfl) ?_; dsimp only)); refine Kd.R_lit k62 _ 62 ?hg (N := 8) ?hd (xs := ([] : List (S62))) (inner := []) (ok := fun _ => True) (okp := fun _ => True) ?hr ?hp (fun _ hk => hk) trivial (Below.refl _ _) (Nat.le_refl _) (by simp) ?_; (case hd => rfl); (case hg => rfl); (case hr => (go_simp; done)); (case hp => exact (Reps.none _ _)); intro v115 w3 ho4 hb hg_ hnew_; clear hg_ hnew_; (rw [← Ny114.out] at ho4); have n0_ := Aside0.mk (Kd.R_lower ho4 (below_size (w := w) bW)); have n1_ := Aside0.mk (below_step (w := w) bW hb); clear HB; have HO116 := n0_; have HB := n1_; clear n0_ n1_; clear hb ho4))
  go_loopg [5, 6, 7] k (fun kq v5 v6 v7 w' => ∃ (x5_1 : List (S62)) (x6_1 : Int) (x7_1 : Int), v6 = .int .i64 x6_1 ∧ v7 = .int .i64 x7_1 ∧ Aside0 (spec_l01Diff.l0 kq l0 l1 x5_1 x6_1 x7_1 = some r) ∧ Aside0 (kq ≤ k) ∧ Aside0 (Kd.R k62 62 w' w.heap.size (fun _ => True) v5 x5_1) ∧ Aside0 (Below w.heap.size w w'))
  case atStart => exact ⟨(y114), (0), (0), vE, vE, H', ⟨Nat.le_refl _⟩, ⟨by exact HO116.out⟩, ⟨bW⟩⟩
  case round =>
    clear H'
    obtain ⟨x5_1, x6_1, x7_1, rfl, rfl, HA, HK1, HO_5, HB⟩ := hrel
    cases gk with
    | zero => exact absurd HA.out (by simp [spec_l01Diff.l0])
    | succ k1 =>
      have H := HA.out
      clear HA
      simp only [spec_l01Diff.l0] at H
      have HC5 := Aside0.mk H
      clear H
      go_upto_region 4 with (fail)
      go_cut [18] (fun v18 wc => ∃ (kq : Nat) (x18_4 : Bool), v18 = .bool x18_4 ∧ Aside0 (spec_l01Diff.j1 kq l0 l1 x5_1 x6_1 x7_1 x18_4 = some r) ∧ Aside0 (kq ≤ k1) ∧ Aside0 (Kd.R k62 62 wc w.heap.size (fun _ => True) u5 x5_1) ∧ Aside0 (Below w.heap.size w wc))
      case first =>
        have H := HC5.out
        clear HC5
        by_cases c6 : x6_1 < (l0.length : Int)
        · rw [if_pos c6] at H
          have c6b0 : decide (x6_1 < (l0.length : Int)) = true := decide_eq_true c6
          clear c6
          have H' := Aside0.mk H
          clear H
          go_wp2
          go_meet
          case rel => exact ⟨_, (true), vE, H', ⟨by have := HK1.out; omega⟩, ⟨by exact HO_5.out⟩, ⟨bW⟩⟩
        · rw [if_neg c6] at H
          have c6b0 : decide (x6_1 < (l0.length : Int)) = false := decide_eq_false c6
          clear c6
          have H' := Aside0.mk H
          clear H
          go_wp2
          go_meet
          case rel => exact ⟨_, (decide (x7_1 < (l1.length : Int))), vE, H', ⟨by have := HK1.out; omega⟩, ⟨by exact HO_5.out⟩, ⟨bW⟩⟩
      case rest =>
        clear HC5
        obtain ⟨kq, x18_4, rfl, HA, HJ4, HO_5, HB⟩ := hcut
        cases kq with
        | zero => exact absurd HA.out (by simp [spec_l01Diff.j1])
        | succ kj4 =>
          have H := HA.out
          clear HA
          simp only [spec_l01Diff.j1] at H
          by_cases c7 : x18_4 = true
          · subst c7
            have H1 : (if x7_1 = (l1.length : Int) then (spec_l01Diff.j2 kj4 l0 l1 x5_1 x6_1 x7_1 true) else (if x6_1 < (l0.length : Int) then (if 0 ≤ x6_1 then (if 0 ≤ x7_1 then (if x7_1 < (l1.length : Int) then (spec_l01Diff.j2 kj4 l0 l1 x5_1 x6_1 x7_1 (Op.bytesLess (((rd_T55 l0 x6_1).f0).toList) (((rd_T55 l1 x7_1).f0).toList))) else (none)) else (none)) else (none)) else (spec_l01Diff.j2 kj4 l0 l1 x5_1 x6_1 x7_1 false))) = some r := by rw [if_pos rfl] at H; exact H
            clear H
            have H := H1
            clear H1
            have HC8 := Aside0.mk H
            clear H
            go_upto_region 9 with (fail)
            go_cut [48] (fun v48 wc => ∃ (kq : Nat) (x48_7 : Bool), v48 = .bool x48_7 ∧ Aside0 (spec_l01Diff.j2 kq l0 l1 x5_1 x6_1 x7_1 x48_7 = some r) ∧ Aside0 (kq ≤ kj4) ∧ Aside0 (Kd.R k62 62 wc w.heap.size (fun _ => True) u5 x5_1) ∧ Aside0 (Below w.heap.size w wc))
            case first =>
              have H := HC8.out
              clear HC8
              by_cases c9 : x7_1 = (l1.length : Int)
              · rw [if_pos c9] at H
                have c9b0 : (x7_1 == (l1.length : Int)) = true := beq_iff_eq.mpr c9
                have c9b1 : (x7_1 != (l1.length : Int)) = false := bne_eq_false_iff_eq.mpr c9
                clear c9
                have H' := Aside0.mk H
                clear H
                try go_wp2
                have n0_ := Aside0.mk (Kd.R_drew HO_5.out)
                have n1_ := Aside0.mk (below_drew1 HB.out)
                clear HO_5
                clear HB
                have HO_5 := n0_
                have HB := n1_
                clear n0_ n1_
                refine start_ (n := 24) (S := fun w' => True) (ds := []) (bs 24 0) (by kernel_rfl) rfl rfl trivial (fun hHeld => ?_); refine with_tabW spec_l01Diff.tab9 spec_l01Diff.bits9 (fun HT_ HW_ => ?_)
                generalize wc.drew = w10 at HO_5 HB hHeld ⊢
                refine pz 0 49 (bs 24 1) HT_ ?_
                refine pz 1 50 (bs 24 3) HT_ ?_
                refine pz 2 51 (bs 24 7) HT_ ?_
                refine pz 3 52 (bs 24 15) HT_ ?_
                refine pz 4 53 (bs 24 31) HT_ ?_
                refine uz 5 54 (bs 24 63) HT_ ?_
                refine uz 6 55 (bs 24 127) HT_ ?_
                refine uz 7 56 (bs 24 255) HT_ ?_
                refine uz 8 57 (bs 24 511) HT_ ?_
                refine uz 9 58 (bs 24 1023) HT_ ?_
                refine uz 10 59 (bs 24 2047) HT_ ?_
                refine uz 11 60 (bs 24 4095) HT_ ?_
                refine uz 12 61 (bs 24 8191) HT_ ?_
                refine uz 13 62 (bs 24 16383) HT_ ?_
                refine uz 14 63 (bs 24 32767) HT_ ?_
                refine uz 15 64 (bs 24 65535) HT_ ?_
                refine uz 16 65 (bs 24 131071) HT_ ?_
                refine uz 17 66 (bs 24 262143) HT_ ?_
                refine uz 18 67 (bs 24 524287) HT_ ?_
                refine uz 19 68 (bs 24 1048575) HT_ ?_
                refine uz 20 69 (bs 24 2097151) HT_ ?_
                refine uz 21 70 (bs 24 4194303) HT_ ?_
                refine pz 22 71 (bs 24 8388607) HT_ ?_
                refine pz 23 48 (bs 24 16777215) HT_ ?_
                refine done_ (done_of HT_.out (by kernel_rfl)) ?_
                try go_wp2
                go_meet
                case rel => exact ⟨_, (true), vE, H', ⟨by have := HK1.out; have := HJ4.out; omega⟩, ⟨by exact HO_5.out⟩, ⟨bW⟩⟩
              · rw [if_neg c9] at H
                have c9b0 : (x7_1 == (l1.length : Int)) = false := beq_eq_false_iff_ne.mpr c9
                have c9b1 : (x7_1 != (l1.length : Int)) = true := bne_iff_ne.mpr c9
                by_cases c11 : x6_1 < (l0.length : Int)
                · rw [if_pos c11] at H
                  have c11b0 : decide (x6_1 < (l0.length : Int)) = true := decide_eq_true c11
                  clear c11
                  by_cases c12 : 0 ≤ x6_1
                  · rw [if_pos c12] at H
                    have c12b0 : decide (0 ≤ x6_1) = true := decide_eq_true c12
                    clear c12
                    by_cases c13 : 0 ≤ x7_1
                    · rw [if_pos c13] at H
                      have c13b0 : decide (0 ≤ x7_1) = true := decide_eq_true c13
                      clear c13
                      by_cases c14 : x7_1 < (l1.length : Int)
                      · rw [if_pos c14] at H
                        have c14b0 : decide (x7_1 < (l1.length : Int)) = true := decide_eq_true c14
                        clear c14
                        have H' := Aside0.mk H
                        clear H
                        try go_wp2
                        have n0_ := Aside0.mk (Kd.R_drew HO_5.out)
                        have n1_ := Aside0.mk (below_drew1 HB.out)
                        clear HO_5
                        clear HB
                        have HO_5 := n0_
                        have HB := n1_
                        clear n0_ n1_
                        have p117 : 0 ≤ (x6_1 : Int) := odt
                        have q117 : x6_1 < (l0.length : Int) := odt
                        obtain ⟨ad117, e117, hx117_0, hx117_1⟩ := at_T55 HR0.out x6_1 p117 q117
                        have hw117_1 := hx117_1
                        have hw117_0 := hx117_0
                        cases e117
                        replace hx117_0 := (HB.out.cell (World.block_lt_of_cell? w _ hx117_0)).trans hx117_0
                        replace hx117_1 := (HB.out.cell (World.block_lt_of_cell? w _ hx117_1)).trans hx117_1
                        replace p117 := eq_true p117
                        replace q117 := eq_true q117
                        have p118 : 0 ≤ (x7_1 : Int) := odt
                        have q118 : x7_1 < (l1.length : Int) := odt
                        obtain ⟨ad118, e118, hx118_0, hx118_1⟩ := at_T55 HR1.out x7_1 p118 q118
                        have hw118_1 := hx118_1
                        have hw118_0 := hx118_0
                        cases e118
                        replace hx118_0 := (HB.out.cell (World.block_lt_of_cell? w _ hx118_0)).trans hx118_0
                        replace hx118_1 := (HB.out.cell (World.block_lt_of_cell? w _ hx118_1)).trans hx118_1
                        replace p118 := eq_true p118
                        replace q118 := eq_true q118
                        refine start_ (n := 24) (S := fun w' => w'.cell? (ad117.add ((x6_1).toNat * 2)) = some (.string ((rd_T55 l0 x6_1).f0)) ∧ w'.cell? ⟨(ad117.add ((x6_1).toNat * 2)).block, (ad117.add ((x6_1).toNat * 2)).off + 1, none⟩ = some (.int .i64 ((rd_T55 l0 x6_1).f1)) ∧ w'.cell? (ad118.add ((x7_1).toNat * 2)) = some (.string ((rd_T55 l1 x7_1).f0)) ∧ w'.cell? ⟨(ad118.add ((x7_1).toNat * 2)).block, (ad118.add ((x7_1).toNat * 2)).off + 1, none⟩ = some (.int .i64 ((rd_T55 l1 x7_1).f1))) (ds := []) (bs 24 0) (by kernel_rfl) rfl rfl ⟨((HB.out.cell (World.block_lt_of_cell? w _ hw117_0)).trans hw117_0), ((HB.out.cell (World.block_lt_of_cell? w _ hw117_1)).trans hw117_1), ((HB.out.cell (World.block_lt_of_cell? w _ hw118_0)).trans hw118_0), ((HB.out.cell (World.block_lt_of_cell? w _ hw118_1)).trans hw118_1)⟩ (fun hHeld => ?_); refine with_tabW spec_l01Diff.tab9 spec_l01Diff.bits9 (fun HT_ HW_ => ?_)
                        generalize wc.drew = w15 at HO_5 HB hx117_0 hx117_1 hx118_0 hx118_1 hHeld ⊢
                        refine pz 0 49 (bs 24 1) HT_ ?_
                        refine pz 1 50 (bs 24 3) HT_ ?_
                        refine pz 2 51 (bs 24 7) HT_ ?_
                        refine pz 3 52 (bs 24 15) HT_ ?_
                        refine pz 4 53 (bs 24 31) HT_ ?_
                        refine pz 5 54 (bs 24 63) HT_ ?_
                        refine pz 6 55 (bs 24 127) HT_ ?_
                        refine pz 7 56 (bs 24 255) HT_ ?_
                        refine pz 8 57 (bs 24 511) HT_ ?_
                        refine pz 9 58 (bs 24 1023) HT_ ?_
                        refine pz 10 59 (bs 24 2047) HT_ ?_
                        refine pz 11 60 (bs 24 4095) HT_ ?_
                        refine pz 12 61 (bs 24 8191) HT_ ?_
                        refine pz 13 62 (bs 24 16383) HT_ ?_
                        refine pz 15 64 (bs 24 49151) HT_ ?_
                        refine pz 16 65 (bs 24 114687) HT_ ?_
                        refine pz 17 66 (bs 24 245759) HT_ ?_
                        refine pz 18 67 (bs 24 507903) HT_ ?_
                        refine tz 14 63 (bs 24 524287) HT_ HW_ hHeld ?_
                        refine tz 19 68 (bs 24 1048575) HT_ HW_ hHeld ?_
                        refine pz 20 69 (bs 24 2097151) HT_ ?_
                        refine pz 21 70 (bs 24 4194303) HT_ ?_
                        refine pz 22 71 (bs 24 8388607) HT_ ?_
                        refine pz 23 48 (bs 24 16777215) HT_ ?_
                        refine done_ (done_of HT_.out (by kernel_rfl)) ?_
                        try go_wp2
                        go_meet
                        case rel => exact ⟨_, ((Op.bytesLess (((rd_T55 l0 x6_1).f0).toList) (((rd_T55 l1 x7_1).f0).toList))), vE, H', ⟨by have := HK1.out; have := HJ4.out; omega⟩, ⟨by exact HO_5.out⟩, ⟨bW⟩⟩
                      · rw [if_neg c14] at H
                        exact absurd H (by simp)
                    · rw [if_neg c13] at H
                      exact absurd H (by simp)
                  · rw [if_neg c12] at H
                    exact absurd H (by simp)
                · rw [if_neg c11] at H
                  have c11b0 : decide (x6_1 < (l0.length : Int)) = false := decide_eq_false c11
                  clear c11
                  have H' := Aside0.mk H
                  clear H
                  try go_wp2
                  have n0_ := Aside0.mk (Kd.R_drew HO_5.out)
                  have n1_ := Aside0.mk (below_drew1 HB.out)
                  clear HO_5
                  clear HB
                  have HO_5 := n0_
                  have HB := n1_
                  clear n0_ n1_
                  refine start_ (n := 24) (S := fun w' => True) (ds := []) (bs 24 0) (by kernel_rfl) rfl rfl trivial (fun hHeld => ?_); refine with_tabW spec_l01Diff.tab9 spec_l01Diff.bits9 (fun HT_ HW_ => ?_)
                  generalize wc.drew = w16 at HO_5 HB hHeld ⊢
                  refine pz 0 49 (bs 24 1) HT_ ?_
                  refine pz 1 50 (bs 24 3) HT_ ?_
                  refine pz 2 51 (bs 24 7) HT_ ?_
                  refine pz 3 52 (bs 24 15) HT_ ?_
                  refine pz 4 53 (bs 24 31) HT_ ?_
                  refine pz 5 54 (bs 24 63) HT_ ?_
                  refine pz 6 55 (bs 24 127) HT_ ?_
                  refine pz 7 56 (bs 24 255) HT_ ?_
                  refine pz 8 57 (bs 24 511) HT_ ?_
                  refine pz 9 58 (bs 24 1023) HT_ ?_
                  refine uz 10 59 (bs 24 2047) HT_ ?_
                  refine uz 11 60 (bs 24 4095) HT_ ?_
                  refine uz 12 61 (bs 24 8191) HT_ ?_
                  refine uz 13 62 (bs 24 16383) HT_ ?_
                  refine uz 14 63 (bs 24 32767) HT_ ?_
                  refine uz 15 64 (bs 24 65535) HT_ ?_
                  refine uz 16 65 (bs 24 131071) HT_ ?_
                  refine uz 17 66 (bs 24 262143) HT_ ?_
                  refine uz 18 67 (bs 24 524287) HT_ ?_
                  refine uz 19 68 (bs 24 1048575) HT_ ?_
                  refine uz 20 69 (bs 24 2097151) HT_ ?_
                  refine pz 21 70 (bs 24 4194303) HT_ ?_
                  refine pz 22 71 (bs 24 8388607) HT_ ?_
                  refine pz 23 48 (bs 24 16777215) HT_ ?_
                  refine done_ (done_of HT_.out (by kernel_rfl)) ?_
                  try go_wp2
                  go_meet
                  case rel => exact ⟨_, (false), vE, H', ⟨by have := HK1.out; have := HJ4.out; omega⟩, ⟨by exact HO_5.out⟩, ⟨bW⟩⟩
            case rest =>
              clear HC8
              obtain ⟨kq, x48_7, rfl, HA, HJ7, HO_5, HB⟩ := hcut
              cases kq with
              | zero => exact absurd HA.out (by simp [spec_l01Diff.j2])
              | succ kj7 =>
                have H := HA.out
                clear HA
                simp only [spec_l01Diff.j2] at H
                by_cases c17 : x48_7 = true
                · subst c17
                  have H1 : (if 0 ≤ x6_1 then (if x6_1 < (l0.length : Int) then (if x5_1.length < 4398046511104 then (spec_l01Diff.l0 kj7 l0 l1 (x5_1 ++ [(⟨(rd_T55 l0 x6_1).f0, 0, true⟩ : S62)]) (wrap64 (x6_1 + 1)) x7_1) else (none)) else (none)) else (none)) = some r := by rw [if_pos rfl] at H; exact H
                  clear H
                  have H := H1
                  clear H1
                  by_cases c18 : 0 ≤ x6_1
                  · rw [if_pos c18] at H
                    have c18b0 : decide (0 ≤ x6_1) = true := decide_eq_true c18
                    clear c18
                    by_cases c19 : x6_1 < (l0.length : Int)
                    · rw [if_pos c19] at H
                      have c19b0 : decide (x6_1 < (l0.length : Int)) = true := decide_eq_true c19
                      clear c19
                      by_cases c20 : x5_1.length < 4398046511104
                      · rw [if_pos c20] at H
                        have LMc20 := Aside0.mk c20
                        clear c20
                        obtain ⟨y120, hy120⟩ : ∃ y_ : List (S62), y_ = (x5_1 ++ [(⟨(rd_T55 l0 x6_1).f0, 0, true⟩ : S62)]) := ⟨_, rfl⟩
                        replace H : (spec_l01Diff.l0 kj7 l0 l1 y120 (wrap64 (x6_1 + 1)) x7_1) = some r := by (rw [hy120]; with_reducible exact H)
                        have Ny120 := Aside0.mk hy120
                        clear hy120
                        have H' := Aside0.mk H
                        clear H
                        have p119 : 0 ≤ (x6_1 : Int) := odt
                        have q119 : x6_1 < (l0.length : Int) := odt
                        obtain ⟨ad119, e119, hx119_0, hx119_1⟩ := at_T55 HR0.out x6_1 p119 q119
                        cases e119
                        replace hx119_0 := (HB.out.cell (World.block_lt_of_cell? w _ hx119_0)).trans hx119_0
                        replace hx119_1 := (HB.out.cell (World.block_lt_of_cell? w _ hx119_1)).trans hx119_1
                        replace p119 := eq_true p119
                        replace q119 := eq_true q119
                        go_wp2_with (((with_reducible refine gate_builtin (b := .append) (xs := #[.tmp 72, .tmp 79]) rfl ?_); (try (refine gate_guard (by rfl) ?_; dsimp only)); at_builtin; refine Kd.R_append k62 (w0 := w) w.heap.size rfl (.tmp 72) (.tmp 79) 34 62 (.agg #[(.string ⟨#[]⟩), (.int .i64 0), (.bool false)]) 32 rfl Try.underlying34 info62 rfl (by decide) (by omega) u5 x5_1 (⟨(rd_T55 l0 x6_1).f0, 0, true⟩ : S62) [.string ((rd_T55 l0 x6_1).f0), .int .i64 0, .bool true] (fun _ => True) (fun _ => False) rfl rfl ?aP (fun _ hk => hk.elim) ?aF ?aO ?aB ?aS ?aL ?_; (case aP => exact k62_mkM _ _ _ (⟨(rd_T55 l0 x6_1).f0, 0, true⟩ : S62)); (case aB => exact bW); (case aF => exact (fun _ _ => trivial)); (case aO => exact (pR HO_5)); (case aS => exact (below_size (w := w) bW)); (case aL => have := LMc20.out; omega); intro v121 w21 ho hb hg hat; rw [← Ny120.out] at ho; have n0_ := Aside0.mk (hb); have n1_ := Aside0.mk (ho); clear HB; clear HO_5; have HB := n0_; have HO122 := n1_; clear n0_ n1_; clear ho hb hg hat))
                        go_roundg kj7
                        case measure => have := HK1.out; have := HJ4.out; have := HJ7.out; omega
                        case rel => exact ⟨(y120), (wrap64 (x6_1 + 1)), (x7_1), vE, vE, H', ⟨by have := HK1.out; have := HJ4.out; have := HJ7.out; omega⟩, ⟨by exact HO122.out⟩, ⟨bW⟩⟩
                      · rw [if_neg c20] at H
                        exact absurd H (by simp)
                    · rw [if_neg c19] at H
                      exact absurd H (by simp)
                  · rw [if_neg c18] at H
                    exact absurd H (by simp)
                · replace c17 := Bool.eq_false_iff.mpr c17
                  subst c17
                  have H1 : (if x6_1 = (l0.length : Int) then (spec_l01Diff.j3 kj7 l0 l1 x5_1 x6_1 x7_1 true) else (if 0 ≤ x7_1 then (if x7_1 < (l1.length : Int) then (if 0 ≤ x6_1 then (if x6_1 < (l0.length : Int) then (spec_l01Diff.j3 kj7 l0 l1 x5_1 x6_1 x7_1 (Op.bytesLess (((rd_T55 l1 x7_1).f0).toList) (((rd_T55 l0 x6_1).f0).toList))) else (none)) else (none)) else (none)) else (none))) = some r := by rw [if_neg (show ¬ (false = true) by decide)] at H; exact H
                  clear H
                  have H := H1
                  clear H1
                  have HC22 := Aside0.mk H
                  clear H
                  go_upto_region 12 with (fail)
                  go_cut [83] (fun v83 wc => ∃ (kq : Nat) (x83_21 : Bool), v83 = .bool x83_21 ∧ Aside0 (spec_l01Diff.j3 kq l0 l1 x5_1 x6_1 x7_1 x83_21 = some r) ∧ Aside0 (kq ≤ kj7) ∧ Aside0 (Kd.R k62 62 wc w.heap.size (fun _ => True) u5 x5_1) ∧ Aside0 (Below w.heap.size w wc))
                  case first =>
                    have H := HC22.out
                    clear HC22
                    by_cases c23 : x6_1 = (l0.length : Int)
                    · rw [if_pos c23] at H
                      have c23b0 : (x6_1 == (l0.length : Int)) = true := beq_iff_eq.mpr c23
                      have c23b1 : (x6_1 != (l0.length : Int)) = false := bne_eq_false_iff_eq.mpr c23
                      clear c23
                      have H' := Aside0.mk H
                      clear H
                      try go_wp2
                      have n0_ := Aside0.mk (Kd.R_drew HO_5.out)
                      have n1_ := Aside0.mk (below_drew1 HB.out)
                      clear HO_5
                      clear HB
                      have HO_5 := n0_
                      have HB := n1_
                      clear n0_ n1_
                      refine start_ (n := 18) (S := fun w' => True) (ds := []) (bs 18 0) (by kernel_rfl) rfl rfl trivial (fun hHeld => ?_); refine with_tabW spec_l01Diff.tab12 spec_l01Diff.bits12 (fun HT_ HW_ => ?_)
                      generalize wc.drew = w24 at HO_5 HB hHeld ⊢
                      refine pz 0 84 (bs 18 1) HT_ ?_
                      refine pz 1 85 (bs 18 3) HT_ ?_
                      refine pz 2 86 (bs 18 7) HT_ ?_
                      refine pz 3 87 (bs 18 15) HT_ ?_
                      refine pz 4 88 (bs 18 31) HT_ ?_
                      refine uz 5 89 (bs 18 63) HT_ ?_
                      refine uz 6 90 (bs 18 127) HT_ ?_
                      refine uz 7 91 (bs 18 255) HT_ ?_
                      refine uz 8 92 (bs 18 511) HT_ ?_
                      refine uz 9 93 (bs 18 1023) HT_ ?_
                      refine uz 10 94 (bs 18 2047) HT_ ?_
                      refine uz 11 95 (bs 18 4095) HT_ ?_
                      refine uz 12 96 (bs 18 8191) HT_ ?_
                      refine uz 13 97 (bs 18 16383) HT_ ?_
                      refine uz 14 98 (bs 18 32767) HT_ ?_
                      refine uz 15 99 (bs 18 65535) HT_ ?_
                      refine pz 16 100 (bs 18 131071) HT_ ?_
                      refine pz 17 83 (bs 18 262143) HT_ ?_
                      refine done_ (done_of HT_.out (by kernel_rfl)) ?_
                      try go_wp2
                      go_meet
                      case rel => exact ⟨_, (true), vE, H', ⟨by have := HK1.out; have := HJ4.out; have := HJ7.out; omega⟩, ⟨by exact HO_5.out⟩, ⟨bW⟩⟩
                    · rw [if_neg c23] at H
                      have c23b0 : (x6_1 == (l0.length : Int)) = false := beq_eq_false_iff_ne.mpr c23
                      have c23b1 : (x6_1 != (l0.length : Int)) = true := bne_iff_ne.mpr c23
                      by_cases c25 : 0 ≤ x7_1
                      · rw [if_pos c25] at H
                        have c25b0 : decide (0 ≤ x7_1) = true := decide_eq_true c25
                        clear c25
                        by_cases c26 : x7_1 < (l1.length : Int)
                        · rw [if_pos c26] at H
                          have c26b0 : decide (x7_1 < (l1.length : Int)) = true := decide_eq_true c26
                          clear c26
                          by_cases c27 : 0 ≤ x6_1
                          · rw [if_pos c27] at H
                            have c27b0 : decide (0 ≤ x6_1) = true := decide_eq_true c27
                            clear c27
                            by_cases c28 : x6_1 < (l0.length : Int)
                            · rw [if_pos c28] at H
                              have c28b0 : decide (x6_1 < (l0.length : Int)) = true := decide_eq_true c28
                              clear c28
                              have H' := Aside0.mk H
                              clear H
                              try go_wp2
                              have n0_ := Aside0.mk (Kd.R_drew HO_5.out)
                              have n1_ := Aside0.mk (below_drew1 HB.out)
                              clear HO_5
                              clear HB
                              have HO_5 := n0_
                              have HB := n1_
                              clear n0_ n1_
                              have p123 : 0 ≤ (x7_1 : Int) := odt
                              have q123 : x7_1 < (l1.length : Int) := odt
                              obtain ⟨ad123, e123, hx123_0, hx123_1⟩ := at_T55 HR1.out x7_1 p123 q123
                              have hw123_1 := hx123_1
                              have hw123_0 := hx123_0
                              cases e123
                              replace hx123_0 := (HB.out.cell (World.block_lt_of_cell? w _ hx123_0)).trans hx123_0
                              replace hx123_1 := (HB.out.cell (World.block_lt_of_cell? w _ hx123_1)).trans hx123_1
                              replace p123 := eq_true p123
                              replace q123 := eq_true q123
                              have p124 : 0 ≤ (x6_1 : Int) := odt
                              have q124 : x6_1 < (l0.length : Int) := odt
                              obtain ⟨ad124, e124, hx124_0, hx124_1⟩ := at_T55 HR0.out x6_1 p124 q124
                              have hw124_1 := hx124_1
                              have hw124_0 := hx124_0
                              cases e124
                              replace hx124_0 := (HB.out.cell (World.block_lt_of_cell? w _ hx124_0)).trans hx124_0
                              replace hx124_1 := (HB.out.cell (World.block_lt_of_cell? w _ hx124_1)).trans hx124_1
                              replace p124 := eq_true p124
                              replace q124 := eq_true q124
                              refine start_ (n := 18) (S := fun w' => w'.cell? (ad123.add ((x7_1).toNat * 2)) = some (.string ((rd_T55 l1 x7_1).f0)) ∧ w'.cell? ⟨(ad123.add ((x7_1).toNat * 2)).block, (ad123.add ((x7_1).toNat * 2)).off + 1, none⟩ = some (.int .i64 ((rd_T55 l1 x7_1).f1)) ∧ w'.cell? (ad124.add ((x6_1).toNat * 2)) = some (.string ((rd_T55 l0 x6_1).f0)) ∧ w'.cell? ⟨(ad124.add ((x6_1).toNat * 2)).block, (ad124.add ((x6_1).toNat * 2)).off + 1, none⟩ = some (.int .i64 ((rd_T55 l0 x6_1).f1))) (ds := []) (bs 18 0) (by kernel_rfl) rfl rfl ⟨((HB.out.cell (World.block_lt_of_cell? w _ hw123_0)).trans hw123_0), ((HB.out.cell (World.block_lt_of_cell? w _ hw123_1)).trans hw123_1), ((HB.out.cell (World.block_lt_of_cell? w _ hw124_0)).trans hw124_0), ((HB.out.cell (World.block_lt_of_cell? w _ hw124_1)).trans hw124_1)⟩ (fun hHeld => ?_); refine with_tabW spec_l01Diff.tab12 spec_l01Diff.bits12 (fun HT_ HW_ => ?_)
                              generalize wc.drew = w29 at HO_5 HB hx123_0 hx123_1 hx124_0 hx124_1 hHeld ⊢
                              refine pz 0 84 (bs 18 1) HT_ ?_
                              refine pz 1 85 (bs 18 3) HT_ ?_
                              refine pz 2 86 (bs 18 7) HT_ ?_
                              refine pz 3 87 (bs 18 15) HT_ ?_
                              refine pz 4 88 (bs 18 31) HT_ ?_
                              refine pz 5 89 (bs 18 63) HT_ ?_
                              refine pz 6 90 (bs 18 127) HT_ ?_
                              refine pz 7 91 (bs 18 255) HT_ ?_
                              refine pz 8 92 (bs 18 511) HT_ ?_
                              refine pz 10 94 (bs 18 1535) HT_ ?_
                              refine pz 11 95 (bs 18 3583) HT_ ?_
                              refine pz 12 96 (bs 18 7679) HT_ ?_
                              refine pz 13 97 (bs 18 15871) HT_ ?_
                              refine tz 9 93 (bs 18 16383) HT_ HW_ hHeld ?_
                              refine tz 14 98 (bs 18 32767) HT_ HW_ hHeld ?_
                              refine pz 15 99 (bs 18 65535) HT_ ?_
                              refine pz 16 100 (bs 18 131071) HT_ ?_
                              refine pz 17 83 (bs 18 262143) HT_ ?_
                              refine done_ (done_of HT_.out (by kernel_rfl)) ?_
                              try go_wp2
                              go_meet
                              case rel => exact ⟨_, ((Op.bytesLess (((rd_T55 l1 x7_1).f0).toList) (((rd_T55 l0 x6_1).f0).toList))), vE, H', ⟨by have := HK1.out; have := HJ4.out; have := HJ7.out; omega⟩, ⟨by exact HO_5.out⟩, ⟨bW⟩⟩
                            · rw [if_neg c28] at H
                              exact absurd H (by simp)
                          · rw [if_neg c27] at H
                            exact absurd H (by simp)
                        · rw [if_neg c26] at H
                          exact absurd H (by simp)
                      · rw [if_neg c25] at H
                        exact absurd H (by simp)
                  case rest =>
                    clear HC22
                    obtain ⟨kq, x83_21, rfl, HA, HJ21, HO_5, HB⟩ := hcut
                    cases kq with
                    | zero => exact absurd HA.out (by simp [spec_l01Diff.j3])
                    | succ kj21 =>
                      have H := HA.out
                      clear HA
                      simp only [spec_l01Diff.j3] at H
                      by_cases c30 : x83_21 = true
                      · subst c30
                        have H1 : (if 0 ≤ x7_1 then (if x7_1 < (l1.length : Int) then (if x5_1.length < 4398046511104 then (spec_l01Diff.l0 kj21 l0 l1 (x5_1 ++ [(⟨(rd_T55 l1 x7_1).f0, (rd_T55 l1 x7_1).f1, false⟩ : S62)]) x6_1 (wrap64 (x7_1 + 1))) else (none)) else (none)) else (none)) = some r := by rw [if_pos rfl] at H; exact H
                        clear H
                        have H := H1
                        clear H1
                        by_cases c31 : 0 ≤ x7_1
                        · rw [if_pos c31] at H
                          have c31b0 : decide (0 ≤ x7_1) = true := decide_eq_true c31
                          clear c31
                          by_cases c32 : x7_1 < (l1.length : Int)
                          · rw [if_pos c32] at H
                            have c32b0 : decide (x7_1 < (l1.length : Int)) = true := decide_eq_true c32
                            clear c32
                            by_cases c33 : x5_1.length < 4398046511104
                            · rw [if_pos c33] at H
                              have LMc33 := Aside0.mk c33
                              clear c33
                              obtain ⟨y127, hy127⟩ : ∃ y_ : List (S62), y_ = (x5_1 ++ [(⟨(rd_T55 l1 x7_1).f0, (rd_T55 l1 x7_1).f1, false⟩ : S62)]) := ⟨_, rfl⟩
                              replace H : (spec_l01Diff.l0 kj21 l0 l1 y127 x6_1 (wrap64 (x7_1 + 1))) = some r := by (rw [hy127]; with_reducible exact H)
                              have Ny127 := Aside0.mk hy127
                              clear hy127
                              have H' := Aside0.mk H
                              clear H
                              try go_wp2
                              have n0_ := Aside0.mk (Kd.R_drew HO_5.out)
                              have n1_ := Aside0.mk (below_drew1 HB.out)
                              clear HO_5
                              clear HB
                              have HO_5 := n0_
                              have HB := n1_
                              clear n0_ n1_
                              have p125 : 0 ≤ (x7_1 : Int) := odt
                              have q125 : x7_1 < (l1.length : Int) := odt
                              obtain ⟨ad125, e125, hx125_0, hx125_1⟩ := at_T55 HR1.out x7_1 p125 q125
                              have hw125_1 := hx125_1
                              have hw125_0 := hx125_0
                              cases e125
                              replace hx125_0 := (HB.out.cell (World.block_lt_of_cell? w _ hx125_0)).trans hx125_0
                              replace hx125_1 := (HB.out.cell (World.block_lt_of_cell? w _ hx125_1)).trans hx125_1
                              replace p125 := eq_true p125
                              replace q125 := eq_true q125
                              have p126 : 0 ≤ (x7_1 : Int) := odt
                              have q126 : x7_1 < (l1.length : Int) := odt
                              obtain ⟨ad126, e126, hx126_0, hx126_1⟩ := at_T55 HR1.out x7_1 p126 q126
                              have hw126_1 := hx126_1
                              have hw126_0 := hx126_0
                              obtain rfl : ad125 = ad126 := (by injection e126)
                              replace hx126_0 := (HB.out.cell (World.block_lt_of_cell? w _ hx126_0)).trans hx126_0
                              replace hx126_1 := (HB.out.cell (World.block_lt_of_cell? w _ hx126_1)).trans hx126_1
                              replace p126 := eq_true p126
                              replace q126 := eq_true q126
                              refine start_ (n := 15) (S := fun w' => w'.cell? (ad125.add ((x7_1).toNat * 2)) = some (.string ((rd_T55 l1 x7_1).f0)) ∧ w'.cell? ⟨(ad125.add ((x7_1).toNat * 2)).block, (ad125.add ((x7_1).toNat * 2)).off + 1, none⟩ = some (.int .i64 ((rd_T55 l1 x7_1).f1)) ∧ w'.cell? (ad125.add ((x7_1).toNat * 2)) = some (.string ((rd_T55 l1 x7_1).f0)) ∧ w'.cell? ⟨(ad125.add ((x7_1).toNat * 2)).block, (ad125.add ((x7_1).toNat * 2)).off + 1, none⟩ = some (.int .i64 ((rd_T55 l1 x7_1).f1))) (ds := []) (bs 15 0) (by kernel_rfl) rfl rfl ⟨((HB.out.cell (World.block_lt_of_cell? w _ hw125_0)).trans hw125_0), ((HB.out.cell (World.block_lt_of_cell? w _ hw125_1)).trans hw125_1), ((HB.out.cell (World.block_lt_of_cell? w _ hw126_0)).trans hw126_0), ((HB.out.cell (World.block_lt_of_cell? w _ hw126_1)).trans hw126_1)⟩ (fun hHeld => ?_); refine with_tabW spec_l01Diff.tab13 spec_l01Diff.bits13 (fun HT_ HW_ => ?_)
                              generalize wc.drew = w34 at HO_5 HB hx125_0 hx125_1 hx126_0 hx126_1 hHeld ⊢
                              refine pz 0 101 (bs 15 1) HT_ ?_
                              refine pz 1 102 (bs 15 3) HT_ ?_
                              refine pz 2 103 (bs 15 7) HT_ ?_
                              refine pz 3 104 (bs 15 15) HT_ ?_
                              refine pz 4 105 (bs 15 31) HT_ ?_
                              refine pz 6 107 (bs 15 95) HT_ ?_
                              refine pz 7 108 (bs 15 223) HT_ ?_
                              refine pz 8 109 (bs 15 479) HT_ ?_
                              refine pz 9 110 (bs 15 991) HT_ ?_
                              refine tz 5 106 (bs 15 1023) HT_ HW_ hHeld ?_
                              refine tz 10 111 (bs 15 2047) HT_ HW_ hHeld ?_
                              refine pz 11 112 (bs 15 4095) HT_ ?_
                              refine one_ (i := 12) (N := some 113) (bs 15 8191) rfl rfl (one_of HT_.out (by kernel_rfl)) (by decide) (fun K hK => ?_)
                              refine value_ (w1 := ?_) (v := ?_) (by rfl) rfl ?_ ?_
                              rotate_left 2
                              · go_simp
                                constructor
                                · rfl
                                · rfl
                              refine hK.out _ _ ⟨(World.cell?_alloc_lt _ _ _ (World.block_lt_of_cell? _ _ (((HB.out.cell (World.block_lt_of_cell? w _ hw125_0)).trans hw125_0)))).trans (((HB.out.cell (World.block_lt_of_cell? w _ hw125_0)).trans hw125_0)), (World.cell?_alloc_lt _ _ _ (World.block_lt_of_cell? _ _ (((HB.out.cell (World.block_lt_of_cell? w _ hw125_1)).trans hw125_1)))).trans (((HB.out.cell (World.block_lt_of_cell? w _ hw125_1)).trans hw125_1)), (World.cell?_alloc_lt _ _ _ (World.block_lt_of_cell? _ _ (((HB.out.cell (World.block_lt_of_cell? w _ hw126_0)).trans hw126_0)))).trans (((HB.out.cell (World.block_lt_of_cell? w _ hw126_0)).trans hw126_0)), (World.cell?_alloc_lt _ _ _ (World.block_lt_of_cell? _ _ (((HB.out.cell (World.block_lt_of_cell? w _ hw126_1)).trans hw126_1)))).trans (((HB.out.cell (World.block_lt_of_cell? w _ hw126_1)).trans hw126_1))⟩ (fun hHeld => ?_)
                              clear hK K
                              refine norm_ (a' := ?_) ?_ ?_
                              rotate_left
                              · show Act.put _ (some 113) _ = _
                                simp only [Act.put, List.setIfInBounds_toArray, List.set_cons_zero, List.set_cons_succ, i64_w, i32_w]
                                rfl
                              refine one_ (i := 13) (N := some 114) (bs 15 16383) rfl rfl (one_of HT_.out (by kernel_rfl)) (by decide) (fun K hK => ?_)
                              refine Kd.R_append_step k62 (w0 := w) w.heap.size (by rfl) (.tmp 101) (.tmp 113) 34 62 (.agg #[(.string ⟨#[]⟩), (.int .i64 0), (.bool false)]) 32 rfl Try.underlying34 info62 rfl (by decide) (by omega) u5 x5_1 (⟨(rd_T55 l1 x7_1).f0, (rd_T55 l1 x7_1).f1, false⟩ : S62) [.string ((rd_T55 l1 x7_1).f0), .int .i64 ((rd_T55 l1 x7_1).f1), .bool false] (fun _ => True) (fun _ => False) rfl rfl ?aP (fun _ hk => hk.elim) ?aF ?aO ?aB ?aS ?aL ?_
                              (case aP => exact k62_mkM _ _ _ (⟨(rd_T55 l1 x7_1).f0, (rd_T55 l1 x7_1).f1, false⟩ : S62))
                              (case aB => exact bW)
                              (case aF => exact (fun _ _ => trivial))
                              (case aO => exact (pR HO_5))
                              (case aS => exact (below_size (w := w) bW))
                              (case aL => have := LMc33.out; omega)
                              intro v128 w35 ho hb hg hat
                              rw [← Ny127.out] at ho
                              have n0_ := Aside0.mk (hb)
                              have n1_ := Aside0.mk (ho)
                              clear HB
                              clear HO_5
                              have HB := n0_
                              have HO129 := n1_
                              clear n0_ n1_
                              clear ho hb hg hat
                              refine hK.out _ _ ⟨((HB.out.cell (World.block_lt_of_cell? w _ hw125_0)).trans hw125_0), ((HB.out.cell (World.block_lt_of_cell? w _ hw125_1)).trans hw125_1), ((HB.out.cell (World.block_lt_of_cell? w _ hw126_0)).trans hw126_0), ((HB.out.cell (World.block_lt_of_cell? w _ hw126_1)).trans hw126_1)⟩ (fun hHeld => ?_)
                              clear hK K
                              refine norm_ (a' := ?_) ?_ ?_
                              rotate_left
                              · show Act.put _ (some 114) _ = _
                                simp only [Act.put, List.setIfInBounds_toArray, List.set_cons_zero, List.set_cons_succ, i64_w, i32_w]
                                rfl
                              refine pz 14 5 (bs 15 32767) HT_ ?_
                              refine done_ (done_of HT_.out (by kernel_rfl)) ?_
                              try go_wp2
                              go_roundg kj21
                              case measure => have := HK1.out; have := HJ4.out; have := HJ7.out; have := HJ21.out; omega
                              case rel => exact ⟨(y127), (x6_1), (wrap64 (x7_1 + 1)), vE, vE, H', ⟨by have := HK1.out; have := HJ4.out; have := HJ7.out; have := HJ21.out; omega⟩, ⟨by exact HO129.out⟩, ⟨bW⟩⟩
                            · rw [if_neg c33] at H
                              exact absurd H (by simp)
                          · rw [if_neg c32] at H
                            exact absurd H (by simp)
                        · rw [if_neg c31] at H
                          exact absurd H (by simp)
                      · replace c30 := Bool.eq_false_iff.mpr c30
                        subst c30
                        have H1 : (if 0 ≤ x6_1 then (if x6_1 < (l0.length : Int) then (if 0 ≤ x7_1 then (if x7_1 < (l1.length : Int) then (if ((rd_T55 l0 x6_1).f1) = ((rd_T55 l1 x7_1).f1) then (spec_l01Diff.l0 kj21 l0 l1 x5_1 (wrap64 (x6_1 + 1)) (wrap64 (x7_1 + 1))) else (if x5_1.length < 4398046511104 then (spec_l01Diff.l0 kj21 l0 l1 (x5_1 ++ [(⟨(rd_T55 l1 x7_1).f0, (rd_T55 l1 x7_1).f1, false⟩ : S62)]) (wrap64 (x6_1 + 1)) (wrap64 (x7_1 + 1))) else (none))) else (none)) else (none)) else (none)) else (none)) = some r := by rw [if_neg (show ¬ (false = true) by decide)] at H; exact H
                        clear H
                        have H := H1
                        clear H1
                        by_cases c36 : 0 ≤ x6_1
                        · rw [if_pos c36] at H
                          have c36b0 : decide (0 ≤ x6_1) = true := decide_eq_true c36
                          clear c36
                          by_cases c37 : x6_1 < (l0.length : Int)
                          · rw [if_pos c37] at H
                            have c37b0 : decide (x6_1 < (l0.length : Int)) = true := decide_eq_true c37
                            clear c37
                            by_cases c38 : 0 ≤ x7_1
                            · rw [if_pos c38] at H
                              have c38b0 : decide (0 ≤ x7_1) = true := decide_eq_true c38
                              clear c38
                              by_cases c39 : x7_1 < (l1.length : Int)
                              · rw [if_pos c39] at H
                                have c39b0 : decide (x7_1 < (l1.length : Int)) = true := decide_eq_true c39
                                clear c39
                                by_cases c40 : ((rd_T55 l0 x6_1).f1) = ((rd_T55 l1 x7_1).f1)
                                · rw [if_pos c40] at H
                                  have c40b0 : (((rd_T55 l0 x6_1).f1) == ((rd_T55 l1 x7_1).f1)) = true := beq_iff_eq.mpr c40
                                  have c40b1 : (((rd_T55 l0 x6_1).f1) != ((rd_T55 l1 x7_1).f1)) = false := bne_eq_false_iff_eq.mpr c40
                                  clear c40
                                  have H' := Aside0.mk H
                                  clear H
                                  try go_wp2
                                  have n0_ := Aside0.mk (Kd.R_drew HO_5.out)
                                  have n1_ := Aside0.mk (below_drew1 HB.out)
                                  clear HO_5
                                  clear HB
                                  have HO_5 := n0_
                                  have HB := n1_
                                  clear n0_ n1_
                                  have p130 : 0 ≤ (x6_1 : Int) := odt
                                  have q130 : x6_1 < (l0.length : Int) := odt
                                  obtain ⟨ad130, e130, hx130_0, hx130_1⟩ := at_T55 HR0.out x6_1 p130 q130
                                  have hw130_1 := hx130_1
                                  have hw130_0 := hx130_0
                                  cases e130
                                  replace hx130_0 := (HB.out.cell (World.block_lt_of_cell? w _ hx130_0)).trans hx130_0
                                  replace hx130_1 := (HB.out.cell (World.block_lt_of_cell? w _ hx130_1)).trans hx130_1
                                  replace p130 := eq_true p130
                                  replace q130 := eq_true q130
                                  have p131 : 0 ≤ (x7_1 : Int) := odt
                                  have q131 : x7_1 < (l1.length : Int) := odt
                                  obtain ⟨ad131, e131, hx131_0, hx131_1⟩ := at_T55 HR1.out x7_1 p131 q131
                                  have hw131_1 := hx131_1
                                  have hw131_0 := hx131_0
                                  cases e131
                                  replace hx131_0 := (HB.out.cell (World.block_lt_of_cell? w _ hx131_0)).trans hx131_0
                                  replace hx131_1 := (HB.out.cell (World.block_lt_of_cell? w _ hx131_1)).trans hx131_1
                                  replace p131 := eq_true p131
                                  replace q131 := eq_true q131
                                  refine start_ (n := 11) (S := fun w' => w'.cell? (ad130.add ((x6_1).toNat * 2)) = some (.string ((rd_T55 l0 x6_1).f0)) ∧ w'.cell? ⟨(ad130.add ((x6_1).toNat * 2)).block, (ad130.add ((x6_1).toNat * 2)).off + 1, none⟩ = some (.int .i64 ((rd_T55 l0 x6_1).f1)) ∧ w'.cell? (ad131.add ((x7_1).toNat * 2)) = some (.string ((rd_T55 l1 x7_1).f0)) ∧ w'.cell? ⟨(ad131.add ((x7_1).toNat * 2)).block, (ad131.add ((x7_1).toNat * 2)).off + 1, none⟩ = some (.int .i64 ((rd_T55 l1 x7_1).f1))) (ds := []) (bs 11 0) (by kernel_rfl) rfl rfl ⟨((HB.out.cell (World.block_lt_of_cell? w _ hw130_0)).trans hw130_0), ((HB.out.cell (World.block_lt_of_cell? w _ hw130_1)).trans hw130_1), ((HB.out.cell (World.block_lt_of_cell? w _ hw131_0)).trans hw131_0), ((HB.out.cell (World.block_lt_of_cell? w _ hw131_1)).trans hw131_1)⟩ (fun hHeld => ?_); refine with_tabW spec_l01Diff.tab5 spec_l01Diff.bits5 (fun HT_ HW_ => ?_)
                                  generalize wc.drew = w41 at HO_5 HB hx130_0 hx130_1 hx131_0 hx131_1 hHeld ⊢
                                  refine pz 0 19 (bs 11 1) HT_ ?_
                                  refine pz 1 20 (bs 11 3) HT_ ?_
                                  refine pz 2 21 (bs 11 7) HT_ ?_
                                  refine pz 3 22 (bs 11 15) HT_ ?_
                                  refine pz 5 24 (bs 11 47) HT_ ?_
                                  refine pz 6 25 (bs 11 111) HT_ ?_
                                  refine pz 7 26 (bs 11 239) HT_ ?_
                                  refine pz 8 27 (bs 11 495) HT_ ?_
                                  refine tz 4 23 (bs 11 511) HT_ HW_ hHeld ?_
                                  refine tz 9 28 (bs 11 1023) HT_ HW_ hHeld ?_
                                  refine pz 10 29 (bs 11 2047) HT_ ?_
                                  refine done_ (done_of HT_.out (by kernel_rfl)) ?_
                                  try go_wp2
                                  go_roundg kj21
                                  case measure => have := HK1.out; have := HJ4.out; have := HJ7.out; have := HJ21.out; omega
                                  case rel => exact ⟨(x5_1), (wrap64 (x6_1 + 1)), (wrap64 (x7_1 + 1)), vE, vE, H', ⟨by have := HK1.out; have := HJ4.out; have := HJ7.out; have := HJ21.out; omega⟩, ⟨by exact HO_5.out⟩, ⟨bW⟩⟩
                                · rw [if_neg c40] at H
                                  have c40b0 : (((rd_T55 l0 x6_1).f1) == ((rd_T55 l1 x7_1).f1)) = false := beq_eq_false_iff_ne.mpr c40
                                  have c40b1 : (((rd_T55 l0 x6_1).f1) != ((rd_T55 l1 x7_1).f1)) = true := bne_iff_ne.mpr c40
                                  by_cases c42 : x5_1.length < 4398046511104
                                  · rw [if_pos c42] at H
                                    have LMc42 := Aside0.mk c42
                                    clear c42
                                    obtain ⟨y134, hy134⟩ : ∃ y_ : List (S62), y_ = (x5_1 ++ [(⟨(rd_T55 l1 x7_1).f0, (rd_T55 l1 x7_1).f1, false⟩ : S62)]) := ⟨_, rfl⟩
                                    replace H : (spec_l01Diff.l0 kj21 l0 l1 y134 (wrap64 (x6_1 + 1)) (wrap64 (x7_1 + 1))) = some r := by (rw [hy134]; with_reducible exact H)
                                    have Ny134 := Aside0.mk hy134
                                    clear hy134
                                    have H' := Aside0.mk H
                                    clear H
                                    try go_wp2
                                    have n0_ := Aside0.mk (Kd.R_drew HO_5.out)
                                    have n1_ := Aside0.mk (below_drew1 HB.out)
                                    clear HO_5
                                    clear HB
                                    have HO_5 := n0_
                                    have HB := n1_
                                    clear n0_ n1_
                                    have p130 : 0 ≤ (x6_1 : Int) := odt
                                    have q130 : x6_1 < (l0.length : Int) := odt
                                    obtain ⟨ad130, e130, hx130_0, hx130_1⟩ := at_T55 HR0.out x6_1 p130 q130
                                    have hw130_1 := hx130_1
                                    have hw130_0 := hx130_0
                                    cases e130
                                    replace hx130_0 := (HB.out.cell (World.block_lt_of_cell? w _ hx130_0)).trans hx130_0
                                    replace hx130_1 := (HB.out.cell (World.block_lt_of_cell? w _ hx130_1)).trans hx130_1
                                    replace p130 := eq_true p130
                                    replace q130 := eq_true q130
                                    have p131 : 0 ≤ (x7_1 : Int) := odt
                                    have q131 : x7_1 < (l1.length : Int) := odt
                                    obtain ⟨ad131, e131, hx131_0, hx131_1⟩ := at_T55 HR1.out x7_1 p131 q131
                                    have hw131_1 := hx131_1
                                    have hw131_0 := hx131_0
                                    cases e131
                                    replace hx131_0 := (HB.out.cell (World.block_lt_of_cell? w _ hx131_0)).trans hx131_0
                                    replace hx131_1 := (HB.out.cell (World.block_lt_of_cell? w _ hx131_1)).trans hx131_1
                                    replace p131 := eq_true p131
                                    replace q131 := eq_true q131
                                    refine start_ (n := 11) (S := fun w' => w'.cell? (ad130.add ((x6_1).toNat * 2)) = some (.string ((rd_T55 l0 x6_1).f0)) ∧ w'.cell? ⟨(ad130.add ((x6_1).toNat * 2)).block, (ad130.add ((x6_1).toNat * 2)).off + 1, none⟩ = some (.int .i64 ((rd_T55 l0 x6_1).f1)) ∧ w'.cell? (ad131.add ((x7_1).toNat * 2)) = some (.string ((rd_T55 l1 x7_1).f0)) ∧ w'.cell? ⟨(ad131.add ((x7_1).toNat * 2)).block, (ad131.add ((x7_1).toNat * 2)).off + 1, none⟩ = some (.int .i64 ((rd_T55 l1 x7_1).f1))) (ds := []) (bs 11 0) (by kernel_rfl) rfl rfl ⟨((HB.out.cell (World.block_lt_of_cell? w _ hw130_0)).trans hw130_0), ((HB.out.cell (World.block_lt_of_cell? w _ hw130_1)).trans hw130_1), ((HB.out.cell (World.block_lt_of_cell? w _ hw131_0)).trans hw131_0), ((HB.out.cell (World.block_lt_of_cell? w _ hw131_1)).trans hw131_1)⟩ (fun hHeld => ?_); refine with_tabW spec_l01Diff.tab5 spec_l01Diff.bits5 (fun HT_ HW_ => ?_)
                                    generalize wc.drew = w43 at HO_5 HB hx130_0 hx130_1 hx131_0 hx131_1 hHeld ⊢
                                    refine pz 0 19 (bs 11 1) HT_ ?_
                                    refine pz 1 20 (bs 11 3) HT_ ?_
                                    refine pz 2 21 (bs 11 7) HT_ ?_
                                    refine pz 3 22 (bs 11 15) HT_ ?_
                                    refine pz 5 24 (bs 11 47) HT_ ?_
                                    refine pz 6 25 (bs 11 111) HT_ ?_
                                    refine pz 7 26 (bs 11 239) HT_ ?_
                                    refine pz 8 27 (bs 11 495) HT_ ?_
                                    refine tz 4 23 (bs 11 511) HT_ HW_ hHeld ?_
                                    refine tz 9 28 (bs 11 1023) HT_ HW_ hHeld ?_
                                    refine pz 10 29 (bs 11 2047) HT_ ?_
                                    refine done_ (done_of HT_.out (by kernel_rfl)) ?_
                                    try go_wp2
                                    have n0_ := Aside0.mk (Kd.R_drew HO_5.out)
                                    have n1_ := Aside0.mk (below_drew1 HB.out)
                                    clear HO_5
                                    clear HB
                                    have HO_5 := n0_
                                    have HB := n1_
                                    clear n0_ n1_
                                    have p132 : 0 ≤ (x7_1 : Int) := odt
                                    have q132 : x7_1 < (l1.length : Int) := odt
                                    obtain ⟨ad132, e132, hx132_0, hx132_1⟩ := at_T55 HR1.out x7_1 p132 q132
                                    have hw132_1 := hx132_1
                                    have hw132_0 := hx132_0
                                    obtain rfl : ad131 = ad132 := (by injection e132)
                                    replace hx132_0 := (HB.out.cell (World.block_lt_of_cell? w _ hx132_0)).trans hx132_0
                                    replace hx132_1 := (HB.out.cell (World.block_lt_of_cell? w _ hx132_1)).trans hx132_1
                                    replace p132 := eq_true p132
                                    replace q132 := eq_true q132
                                    have p133 : 0 ≤ (x7_1 : Int) := odt
                                    have q133 : x7_1 < (l1.length : Int) := odt
                                    obtain ⟨ad133, e133, hx133_0, hx133_1⟩ := at_T55 HR1.out x7_1 p133 q133
                                    have hw133_1 := hx133_1
                                    have hw133_0 := hx133_0
                                    obtain rfl : ad131 = ad133 := (by injection e133)
                                    replace hx133_0 := (HB.out.cell (World.block_lt_of_cell? w _ hx133_0)).trans hx133_0
                                    replace hx133_1 := (HB.out.cell (World.block_lt_of_cell? w _ hx133_1)).trans hx133_1
                                    replace p133 := eq_true p133
                                    replace q133 := eq_true q133
                                    refine start_ (n := 15) (S := fun w' => w'.cell? (ad131.add ((x7_1).toNat * 2)) = some (.string ((rd_T55 l1 x7_1).f0)) ∧ w'.cell? ⟨(ad131.add ((x7_1).toNat * 2)).block, (ad131.add ((x7_1).toNat * 2)).off + 1, none⟩ = some (.int .i64 ((rd_T55 l1 x7_1).f1)) ∧ w'.cell? (ad131.add ((x7_1).toNat * 2)) = some (.string ((rd_T55 l1 x7_1).f0)) ∧ w'.cell? ⟨(ad131.add ((x7_1).toNat * 2)).block, (ad131.add ((x7_1).toNat * 2)).off + 1, none⟩ = some (.int .i64 ((rd_T55 l1 x7_1).f1))) (ds := []) (bs 15 0) (by kernel_rfl) rfl rfl ⟨((HB.out.cell (World.block_lt_of_cell? w _ hw132_0)).trans hw132_0), ((HB.out.cell (World.block_lt_of_cell? w _ hw132_1)).trans hw132_1), ((HB.out.cell (World.block_lt_of_cell? w _ hw133_0)).trans hw133_0), ((HB.out.cell (World.block_lt_of_cell? w _ hw133_1)).trans hw133_1)⟩ (fun hHeld => ?_); refine with_tabW spec_l01Diff.tab6 spec_l01Diff.bits6 (fun HT_ HW_ => ?_)
                                    generalize w43.drew = w44 at HO_5 HB hx132_0 hx132_1 hx133_0 hx133_1 hHeld ⊢
                                    refine pz 0 30 (bs 15 1) HT_ ?_
                                    refine pz 1 31 (bs 15 3) HT_ ?_
                                    refine pz 2 32 (bs 15 7) HT_ ?_
                                    refine pz 3 33 (bs 15 15) HT_ ?_
                                    refine pz 4 34 (bs 15 31) HT_ ?_
                                    refine pz 6 36 (bs 15 95) HT_ ?_
                                    refine pz 7 37 (bs 15 223) HT_ ?_
                                    refine pz 8 38 (bs 15 479) HT_ ?_
                                    refine pz 9 39 (bs 15 991) HT_ ?_
                                    refine tz 5 35 (bs 15 1023) HT_ HW_ hHeld ?_
                                    refine tz 10 40 (bs 15 2047) HT_ HW_ hHeld ?_
                                    refine pz 11 41 (bs 15 4095) HT_ ?_
                                    refine one_ (i := 12) (N := some 42) (bs 15 8191) rfl rfl (one_of HT_.out (by kernel_rfl)) (by decide) (fun K hK => ?_)
                                    refine value_ (w1 := ?_) (v := ?_) (by rfl) rfl ?_ ?_
                                    rotate_left 2
                                    · go_simp
                                      constructor
                                      · rfl
                                      · rfl
                                    refine hK.out _ _ ⟨(World.cell?_alloc_lt _ _ _ (World.block_lt_of_cell? _ _ (((HB.out.cell (World.block_lt_of_cell? w _ hw132_0)).trans hw132_0)))).trans (((HB.out.cell (World.block_lt_of_cell? w _ hw132_0)).trans hw132_0)), (World.cell?_alloc_lt _ _ _ (World.block_lt_of_cell? _ _ (((HB.out.cell (World.block_lt_of_cell? w _ hw132_1)).trans hw132_1)))).trans (((HB.out.cell (World.block_lt_of_cell? w _ hw132_1)).trans hw132_1)), (World.cell?_alloc_lt _ _ _ (World.block_lt_of_cell? _ _ (((HB.out.cell (World.block_lt_of_cell? w _ hw133_0)).trans hw133_0)))).trans (((HB.out.cell (World.block_lt_of_cell? w _ hw133_0)).trans hw133_0)), (World.cell?_alloc_lt _ _ _ (World.block_lt_of_cell? _ _ (((HB.out.cell (World.block_lt_of_cell? w _ hw133_1)).trans hw133_1)))).trans (((HB.out.cell (World.block_lt_of_cell? w _ hw133_1)).trans hw133_1))⟩ (fun hHeld => ?_)
                                    clear hK K
                                    refine norm_ (a' := ?_) ?_ ?_
                                    rotate_left
                                    · show Act.put _ (some 42) _ = _
                                      simp only [Act.put, List.setIfInBounds_toArray, List.set_cons_zero, List.set_cons_succ, i64_w, i32_w]
                                      rfl
                                    refine one_ (i := 13) (N := some 43) (bs 15 16383) rfl rfl (one_of HT_.out (by kernel_rfl)) (by decide) (fun K hK => ?_)
                                    refine Kd.R_append_step k62 (w0 := w) w.heap.size (by rfl) (.tmp 30) (.tmp 42) 34 62 (.agg #[(.string ⟨#[]⟩), (.int .i64 0), (.bool false)]) 32 rfl Try.underlying34 info62 rfl (by decide) (by omega) u5 x5_1 (⟨(rd_T55 l1 x7_1).f0, (rd_T55 l1 x7_1).f1, false⟩ : S62) [.string ((rd_T55 l1 x7_1).f0), .int .i64 ((rd_T55 l1 x7_1).f1), .bool false] (fun _ => True) (fun _ => False) rfl rfl ?aP (fun _ hk => hk.elim) ?aF ?aO ?aB ?aS ?aL ?_
                                    (case aP => exact k62_mkM _ _ _ (⟨(rd_T55 l1 x7_1).f0, (rd_T55 l1 x7_1).f1, false⟩ : S62))
                                    (case aB => exact bW)
                                    (case aF => exact (fun _ _ => trivial))
                                    (case aO => exact (pR HO_5))
                                    (case aS => exact (below_size (w := w) bW))
                                    (case aL => have := LMc42.out; omega)
                                    intro v135 w45 ho hb hg hat
                                    rw [← Ny134.out] at ho
                                    have n0_ := Aside0.mk (hb)
                                    have n1_ := Aside0.mk (ho)
                                    clear HB
                                    clear HO_5
                                    have HB := n0_
                                    have HO136 := n1_
                                    clear n0_ n1_
                                    clear ho hb hg hat
                                    refine hK.out _ _ ⟨((HB.out.cell (World.block_lt_of_cell? w _ hw132_0)).trans hw132_0), ((HB.out.cell (World.block_lt_of_cell? w _ hw132_1)).trans hw132_1), ((HB.out.cell (World.block_lt_of_cell? w _ hw133_0)).trans hw133_0), ((HB.out.cell (World.block_lt_of_cell? w _ hw133_1)).trans hw133_1)⟩ (fun hHeld => ?_)
                                    clear hK K
                                    refine norm_ (a' := ?_) ?_ ?_
                                    rotate_left
                                    · show Act.put _ (some 43) _ = _
                                      simp only [Act.put, List.setIfInBounds_toArray, List.set_cons_zero, List.set_cons_succ, i64_w, i32_w]
                                      rfl
                                    refine pz 14 5 (bs 15 32767) HT_ ?_
                                    refine done_ (done_of HT_.out (by kernel_rfl)) ?_
                                    try go_wp2
                                    go_roundg kj21
                                    case measure => have := HK1.out; have := HJ4.out; have := HJ7.out; have := HJ21.out; omega
                                    case rel => exact ⟨(y134), (wrap64 (x6_1 + 1)), (wrap64 (x7_1 + 1)), vE, vE, H', ⟨by have := HK1.out; have := HJ4.out; have := HJ7.out; have := HJ21.out; omega⟩, ⟨by exact HO136.out⟩, ⟨bW⟩⟩
                                  · rw [if_neg c42] at H
                                    exact absurd H (by simp)
                              · rw [if_neg c39] at H
                                exact absurd H (by simp)
                            · rw [if_neg c38] at H
                              exact absurd H (by simp)
                          · rw [if_neg c37] at H
                            exact absurd H (by simp)
                        · rw [if_neg c36] at H
                          exact absurd H (by simp)
          · replace c7 := Bool.eq_false_iff.mpr c7
            subst c7
            have H1 : (some x5_1) = some r := by rw [if_neg (show ¬ (false = true) by decide)] at H; exact H
            clear H
            have H := H1
            clear H1
            obtain rfl := Option.some.inj H
            go_wp2
            go_ret
            exact ⟨_, by rfl, by exact HO_5.out, bW⟩
end Go.Proofs.Ytblejbgkcgajgaa.Q
end

section
namespace Go.Proofs.Ytblejbgkcgajgaa.Q
open Go.RowKit Go.Proofs.YtblejbgkcgajgaaW.PrintWords Go.Proofs.YtblejbgkcgajgaaW.PrintLast Go.Proofs.YtblejbgkcgajgaaW.PrintMore
attribute [local go_sem] max2_int min2_int max_two min_two max_three min_three max_four min_four   -- for this text's walks alone
set_option linter.unusedVariables false
set_option linter.unusedSimpArgs false
attribute [local go_sem] bin_leq bin_gtr bin_geq
def spec_l02Find.l0 : Nat → List (S62) → ByteArray → Int → Option (ByteArray × Int × Bool × Bool)
  | 0, _, _, _ => none
  | k + 1, x0, x1, x6 => if x6 < (x0.length : Int) then (if 0 ≤ x6 then (if ((rd_T62 x0 x6).f0).toList = x1.toList then (some ((rd_T62 x0 x6).f0, (rd_T62 x0 x6).f1, (rd_T62 x0 x6).f2, true)) else (spec_l02Find.l0 k x0 x1 (wrap64 (x6 + 1)))) else (none)) else (some ((⟨#[]⟩ : ByteArray), 0, false, false))
def spec_l02Find.f (k : Nat) (l0 : List (S62)) (a1 : ByteArray) : Option (ByteArray × Int × Bool × Bool) := spec_l02Find.l0 k l0 a1 0
set_option maxHeartbeats 8000000 in
set_option maxRecDepth 100000 in
theorem spec_l02Find.calls (k : Nat) (A0 : Option Addr) (c0 : Nat) (l0 : List (S62)) (a1 : ByteArray) (r1 : ByteArray) (r2 : Int) (r3 : Bool) (r4 : Bool) (w : World) (hr0 : Kd.C k62 w A0 l0.length l0) (hc0 : l0.length ≤ c0) (h : spec_l02Find.f k l0 a1 = some (r1, r2, r3, r4)) :
    Calls Try.prog 61 #[.slice A0 l0.length c0, .string a1] w fun e w' => e = .returned (.tuple #[.agg #[.string r1, .int .i64 r2, .bool r3], .bool r4]) ∧ Below w.heap.size w w' := by
  have hu62 := Try.underlying62
  have HR0 := Aside0.mk hr0
  have HC0 := Aside0.mk hc0
  clear hr0 hc0
  have HB := Aside0.mk (Below.refl w.heap.size w)
  have H : (spec_l02Find.l0 k l0 a1 0) = some (r1, r2, r3, r4) := h
  clear h
  have H' := Aside0.mk H
  clear H
  go_enter Try.func61, Try.ntmps61
  go_wp2_with (((with_reducible refine gate_dst (N := 4) rfl ?_); refine bE (N := 4) (cs := #[.string (⟨#[]⟩ : ByteArray), .int .i64 0, .bool false]) (t := 62) ?_; intro gb405 hg w3 hbox hb; have n0_ := Aside0.mk (below_step (w := w) bW hb); have n1_ := Aside0.mk (hbox); have n2_ := Aside0.mk (gS (w := w) hg); have n3_ := n2_; clear HB; have HB := n0_; have BK405 := n1_; have GW405 := n2_; have GE405 := n3_; clear n0_ n1_ n2_ n3_; clear hb hbox hg))
  go_loopg [6] k (fun kq v6 w' => ∃ (x6_1 : Int) (x406000_1 : ByteArray) (x406001_1 : Int) (x406002_1 : Bool), v6 = .int .i64 x6_1 ∧ Aside0 (spec_l02Find.l0 kq l0 a1 x6_1 = some (r1, r2, r3, r4)) ∧ Aside0 (kq ≤ k) ∧ Aside0 (w'.heap[gb405]? = some (.cells #[.string x406000_1, .int .i64 x406001_1, .bool x406002_1] 62 (0, 0))) ∧ Aside0 (Below w.heap.size w w'))
  case atStart => exact ⟨(0), ((⟨#[]⟩ : ByteArray)), (0), (false), vE, H', ⟨Nat.le_refl _⟩, ⟨by exact BK405.out⟩, ⟨bW⟩⟩
  case round =>
    clear H'
    obtain ⟨x6_1, x406000_1, x406001_1, x406002_1, rfl, HA, HK1, BK405, HB⟩ := hrel
    cases gk with
    | zero => exact absurd HA.out (by simp [spec_l02Find.l0])
    | succ k1 =>
      have H := HA.out
      clear HA
      simp only [spec_l02Find.l0] at H
      by_cases c4 : x6_1 < (l0.length : Int)
      · rw [if_pos c4] at H
        have c4b0 : decide (x6_1 < (l0.length : Int)) = true := decide_eq_true c4
        clear c4
        by_cases c5 : 0 ≤ x6_1
        · rw [if_pos c5] at H
          have c5b0 : decide (0 ≤ x6_1) = true := decide_eq_true c5
          clear c5
          by_cases c6 : ((rd_T62 l0 x6_1).f0).toList = a1.toList
          · rw [if_pos c6] at H
            have c6b0 : (((rd_T62 l0 x6_1).f0).toList == a1.toList) = true := beq_iff_eq.mpr c6
            have c6b1 : (((rd_T62 l0 x6_1).f0).toList != a1.toList) = false := bne_eq_false_iff_eq.mpr c6
            clear c6
            simp only [Option.some.injEq, Prod.mk.injEq] at H
            obtain ⟨rfl, rfl, rfl, rfl⟩ := H
            have p406 : 0 ≤ (x6_1 : Int) := odt
            have q406 : x6_1 < (l0.length : Int) := odt
            obtain ⟨ad406, e406, hx406_0, hx406_1, hx406_2⟩ := at_T62 HR0.out x6_1 p406 q406
            cases e406
            replace hx406_0 := (HB.out.cell (World.block_lt_of_cell? w _ hx406_0)).trans hx406_0
            replace hx406_1 := (HB.out.cell (World.block_lt_of_cell? w _ hx406_1)).trans hx406_1
            replace hx406_2 := (HB.out.cell (World.block_lt_of_cell? w _ hx406_2)).trans hx406_2
            replace p406 := eq_true p406
            replace q406 := eq_true q406
            have p407 : 0 ≤ (x6_1 : Int) := odt
            have q407 : x6_1 < (l0.length : Int) := odt
            obtain ⟨ad407, e407, hx407_0, hx407_1, hx407_2⟩ := at_T62 HR0.out x6_1 p407 q407
            obtain rfl : ad406 = ad407 := (by injection e407)
            replace hx407_0 := (HB.out.cell (World.block_lt_of_cell? w _ hx407_0)).trans hx407_0
            replace hx407_1 := (HB.out.cell (World.block_lt_of_cell? w _ hx407_1)).trans hx407_1
            replace hx407_2 := (HB.out.cell (World.block_lt_of_cell? w _ hx407_2)).trans hx407_2
            replace p407 := eq_true p407
            replace q407 := eq_true q407
            have hcz7_0 : wr.cell? ⟨gb405, 0, none⟩ = some (.string x406000_1) := (blk_cell BK405.out 0).trans rfl
            have hcz7_1 : wr.cell? ⟨gb405, 1, none⟩ = some (.int .i64 x406001_1) := (blk_cell BK405.out 1).trans rfl
            have hcz7_2 : wr.cell? ⟨gb405, 2, none⟩ = some (.bool x406002_1) := (blk_cell BK405.out 2).trans rfl
            have hfz7_0 := blk_frozen BK405.out 0
            have hfz7_1 := blk_frozen BK405.out 1
            have hfz7_2 := blk_frozen BK405.out 2
            go_wp2
            refine bodyPost_ret (results_ct rfl _ _ gb405 62 #[.string ((rd_T62 l0 x6_1).f0), .int .i64 ((rd_T62 l0 x6_1).f1), .bool ((rd_T62 l0 x6_1).f2)] (0, 0) _ rfl (by refine blk_put (cs := #[.string ((rd_T62 l0 x6_1).f0), .int .i64 ((rd_T62 l0 x6_1).f1), .bool x406002_1]) ?_ 2 _ rfl; refine blk_put (cs := #[.string ((rd_T62 l0 x6_1).f0), .int .i64 x406001_1, .bool x406002_1]) ?_ 1 _ rfl; refine blk_put (cs := #[.string x406000_1, .int .i64 x406001_1, .bool x406002_1]) ?_ 0 _ rfl; exact BK405.out) Try.underlying62 rfl (by kernel_rfl)) rfl ?_
            exact ⟨rE, bW⟩
          · rw [if_neg c6] at H
            have c6b0 : (((rd_T62 l0 x6_1).f0).toList == a1.toList) = false := beq_eq_false_iff_ne.mpr c6
            have c6b1 : (((rd_T62 l0 x6_1).f0).toList != a1.toList) = true := bne_iff_ne.mpr c6
            have H' := Aside0.mk H
            clear H
            have p406 : 0 ≤ (x6_1 : Int) := odt
            have q406 : x6_1 < (l0.length : Int) := odt
            obtain ⟨ad406, e406, hx406_0, hx406_1, hx406_2⟩ := at_T62 HR0.out x6_1 p406 q406
            cases e406
            replace hx406_0 := (HB.out.cell (World.block_lt_of_cell? w _ hx406_0)).trans hx406_0
            replace hx406_1 := (HB.out.cell (World.block_lt_of_cell? w _ hx406_1)).trans hx406_1
            replace hx406_2 := (HB.out.cell (World.block_lt_of_cell? w _ hx406_2)).trans hx406_2
            replace p406 := eq_true p406
            replace q406 := eq_true q406
            go_wp2
            go_roundg k1
            case measure => have := HK1.out; omega
            case rel => exact ⟨(wrap64 (x6_1 + 1)), (x406000_1), (x406001_1), (x406002_1), vE, H', ⟨by have := HK1.out; omega⟩, ⟨by exact BK405.out⟩, ⟨bW⟩⟩
        · rw [if_neg c5] at H
          exact absurd H (by simp)
      · rw [if_neg c4] at H
        have c4b0 : decide (x6_1 < (l0.length : Int)) = false := decide_eq_false c4
        clear c4
        simp only [Option.some.injEq, Prod.mk.injEq] at H
        obtain ⟨rfl, rfl, rfl, rfl⟩ := H
        have hcz8_0 : wr.cell? ⟨gb405, 0, none⟩ = some (.string x406000_1) := (blk_cell BK405.out 0).trans rfl
        have hcz8_1 : wr.cell? ⟨gb405, 1, none⟩ = some (.int .i64 x406001_1) := (blk_cell BK405.out 1).trans rfl
        have hcz8_2 : wr.cell? ⟨gb405, 2, none⟩ = some (.bool x406002_1) := (blk_cell BK405.out 2).trans rfl
        have hfz8_0 := blk_frozen BK405.out 0
        have hfz8_1 := blk_frozen BK405.out 1
        have hfz8_2 := blk_frozen BK405.out 2
        go_wp2
        refine bodyPost_ret (results_ct rfl _ _ gb405 62 #[.string (⟨#[]⟩ : ByteArray), .int .i64 0, .bool false] (0, 0) _ rfl (by refine blk_put (cs := #[.string (⟨#[]⟩ : ByteArray), .int .i64 0, .bool x406002_1]) ?_ 2 _ rfl; refine blk_put (cs := #[.string (⟨#[]⟩ : ByteArray), .int .i64 x406001_1, .bool x406002_1]) ?_ 1 _ rfl; refine blk_put (cs := #[.string x406000_1, .int .i64 x406001_1, .bool x406002_1]) ?_ 0 _ rfl; exact BK405.out) Try.underlying62 rfl (by kernel_rfl)) rfl ?_
        exact ⟨rE, bW⟩
end Go.Proofs.Ytblejbgkcgajgaa.Q
end

section
namespace Go.Proofs.Ytblejbgkcgajgaa.Q
open Go.RowKit Go.Proofs.YtblejbgkcgajgaaW.PrintWords Go.Proofs.YtblejbgkcgajgaaW.PrintLast Go.Proofs.YtblejbgkcgajgaaW.PrintMore
attribute [local go_sem] max2_int min2_int max_two min_two max_three min_three max_four min_four   -- for this text's walks alone
set_option linter.unusedVariables false
set_option linter.unusedSimpArgs false
attribute [local go_sem] bin_leq bin_gtr bin_geq
attribute [local go_sem high] eqA62
def spec_l02Merge.l0 : Nat → List (S55) → List (S62) → List (S62) → List ByteArray → List (S62) → Int → Option ((List (S55)) × List ByteArray)
  | 0, _, _, _, _, _, _ => none
  | k + 1, x1, x8, x9, x10, x11, x12 => if x12 < (x9.length : Int) then (if 0 ≤ x12 then ((spec_l02Find.f k x8 ((rd_T62 x9 x12).f0)).bind fun bt424 => (if bt424.2.2.2 = true then (if (!(bt424.1.toList == (((rd_T62 x9 x12).f0).toList)) || (!(bt424.2.1 == ((rd_T62 x9 x12).f1)) || (!(bt424.2.2.1 == ((rd_T62 x9 x12).f2))))) = true then (if x10.length < 8796093022208 then (spec_l02Merge.l0 k x1 x8 x9 (x10 ++ [(rd_T62 x9 x12).f0]) x11 (wrap64 (x12 + 1))) else (none)) else (spec_l02Merge.l0 k x1 x8 x9 x10 x11 (wrap64 (x12 + 1)))) else (if x11.length < 4398046511104 then (spec_l02Merge.l0 k x1 x8 x9 x10 (x11 ++ [(⟨(rd_T62 x9 x12).f0, (rd_T62 x9 x12).f1, (rd_T62 x9 x12).f2⟩ : S62)]) (wrap64 (x12 + 1))) else (none)))) else (none)) else ((spec_l01Apply.f k x1 x11).bind fun t420 => (some (t420, x10)))
def spec_l02Merge.f (k : Nat) (l0 : List (S55)) (l1 : List (S55)) (l2 : List (S55)) : Option ((List (S55)) × List ByteArray) := (spec_l01Diff.f k l0 l1).bind fun t408 => ((spec_l01Diff.f k l0 l2).bind fun t411 => (spec_l02Merge.l0 k l1 t408 t411 (([] : List ByteArray)) (([] : List (S62))) 0))
set_option maxHeartbeats 8000000 in
set_option maxRecDepth 100000 in
theorem spec_l02Merge.calls (k : Nat) (A0 : Option Addr) (c0 : Nat) (l0 : List (S55)) (A1 : Option Addr) (c1 : Nat) (l1 : List (S55)) (A2 : Option Addr) (c2 : Nat) (l2 : List (S55)) (r1 : List (S55)) (r2 : List ByteArray) (w : World) (hr0 : Kd.C k55 w A0 l0.length l0) (hc0 : l0.length ≤ c0) (hr1 : Kd.C k55 w A1 l1.length l1) (hc1 : l1.length ≤ c1) (hr2 : Kd.C k55 w A2 l2.length l2) (hc2 : l2.length ≤ c2) (h : spec_l02Merge.f k l0 l1 l2 = some (r1, r2)) :
    Calls Try.prog 42 #[.slice A0 l0.length c0, .slice A1 l1.length c1, .slice A2 l2.length c2] w fun e w' => ∃ v0_ v1_ : Value, e = .returned (.tuple #[v0_, v1_]) ∧ Kd.R k55 55 w' w.heap.size (fun _ => True) v0_ r1 ∧ Kd.R Kd.string 9 w' w.heap.size (fun _ => True) v1_ r2 ∧ Below w.heap.size w w' := by
  have hu62 := Try.underlying62
  have HR0 := Aside0.mk hr0
  have HC0 := Aside0.mk hc0
  clear hr0 hc0
  have HR1 := Aside0.mk hr1
  have HC1 := Aside0.mk hc1
  clear hr1 hc1
  have HR2 := Aside0.mk hr2
  have HC2 := Aside0.mk hc2
  clear hr2 hc2
  have HB := Aside0.mk (Below.refl w.heap.size w)
  have H : ((spec_l01Diff.f k l0 l1).bind fun t408 => ((spec_l01Diff.f k l0 l2).bind fun t411 => (spec_l02Merge.l0 k l1 t408 t411 (([] : List ByteArray)) (([] : List (S62))) 0))) = some (r1, r2) := h
  clear h
  replace H := Option.bind_eq_some_iff.mp H
  obtain ⟨t408, A40, H⟩ := H
  replace H : ((spec_l01Diff.f k l0 l2).bind fun t411 => (spec_l02Merge.l0 k l1 t408 t411 (([] : List ByteArray)) (([] : List (S62))) 0)) = some (r1, r2) := H
  have A4 := Aside0.mk A40
  clear A40
  replace H := Option.bind_eq_some_iff.mp H
  obtain ⟨t411, A50, H⟩ := H
  replace H : (spec_l02Merge.l0 k l1 t408 t411 (([] : List ByteArray)) (([] : List (S62))) 0) = some (r1, r2) := H
  have A5 := Aside0.mk A50
  clear A50
  obtain ⟨y414, hy414⟩ : ∃ y_ : List ByteArray, y_ = (([] : List ByteArray)) := ⟨_, rfl⟩
  replace H : (spec_l02Merge.l0 k l1 t408 t411 y414 (([] : List (S62))) 0) = some (r1, r2) := by (rw [hy414]; with_reducible exact H)
  have Ny414 := Aside0.mk hy414
  clear hy414
  obtain ⟨y417, hy417⟩ : ∃ y_ : List (S62), y_ = (([] : List (S62))) := ⟨_, rfl⟩
  replace H : (spec_l02Merge.l0 k l1 t408 t411 y414 y417 0) = some (r1, r2) := by (rw [hy417]; with_reducible exact H)
  have Ny417 := Aside0.mk hy417
  clear hy417
  have H' := Aside0.mk H
  clear H
  go_enter Try.func42, Try.ntmps42
  go_wp2_with (first | (go_at_call 34; (with_reducible refine (spec_l01Diff.calls k _ _ l0 _ _ l1 t408 _ ?side1 ?side2 ?side3 ?side4 A4.out).mono ?_); (case side1 => exact cN HR0); (case side2 => exact HC0.out); (case side3 => exact cN HR1); (case side4 => exact HC1.out); rintro e w6 ⟨v409, rfl, ho0, hb⟩; have n0_ := Aside0.mk (Kd.R_lower ho0 (below_size (w := w) bW)); have n1_ := Aside0.mk (below_step (w := w) bW hb); clear HB; have HO410 := n0_; have HB := n1_; clear n0_ n1_; (try clear hb); (try clear ho0)) | (go_at_call 34; (with_reducible refine (spec_l01Diff.calls k _ _ l0 _ _ l2 t411 _ ?side1 ?side2 ?side3 ?side4 A5.out).mono ?_); (case side1 => exact cB HR0); (case side2 => exact HC0.out); (case side3 => exact cB HR2); (case side4 => exact HC2.out); rintro e w7 ⟨v412, rfl, ho0, hb⟩; have n0_ := Aside0.mk (Kd.R_elder' (pR HO410) (Kd.R_base ho0) hb); have n1_ := Aside0.mk (Kd.R_lower (Kd.R_new' ho0 (Kd.R_lt (pR HO410))) (below_size (w := w) bW)); have n2_ := Aside0.mk (below_step (w := w) bW hb); clear HO410; clear HB; have HO410 := n0_; have HO413 := n1_; have HB := n2_; clear n0_ n1_ n2_; (try clear hb); (try clear ho0)) | ((with_reducible refine gate_dst (N := 21) rfl ?_); refine Kd.R_lit Kd.string _ 9 ?hg (N := 21) ?hd (xs := ([] : List ByteArray)) (inner := []) (ok := fun _ => True) (okp := fun _ => True) ?hr ?hp (fun _ hk => hk) trivial (Below.refl _ _) (Nat.le_refl _) (by simp) ?_; (case hd => rfl); (case hg => rfl); (case hr => (go_simp; done)); (case hp => exact (Reps.none _ _)); intro v415 w8 ho9 hb hg_ hnew_; clear hg_ hnew_; (rw [← Ny414.out] at ho9); have n0_ := Aside0.mk (Kd.R_below (pR HO410) hb); have n1_ := Aside0.mk (Kd.R_below (pR HO413) hb); have n2_ := Aside0.mk (Kd.R_lower ho9 (below_size (w := w) bW)); have n3_ := Aside0.mk (below_step (w := w) bW hb); clear HO410; clear HO413; clear HB; have HO410 := n0_; have HO413 := n1_; have HO416 := n2_; have HB := n3_; clear n0_ n1_ n2_ n3_; clear hb ho9) | ((with_reducible refine gate_dst (N := 22) rfl ?_); refine Kd.R_lit k62 _ 62 ?hg (N := 22) ?hd (xs := ([] : List (S62))) (inner := []) (ok := fun _ => True) (okp := fun _ => True) ?hr ?hp (fun _ hk => hk) trivial (Below.refl _ _) (Nat.le_refl _) (by simp) ?_; (case hd => rfl); (case hg => rfl); (case hr => (go_simp; done)); (case hp => exact (Reps.none _ _)); intro v418 w10 ho11 hb hg_ hnew_; clear hg_ hnew_; (rw [← Ny417.out] at ho11); have n0_ := Aside0.mk (Kd.R_elder' (pR HO410) (Kd.R_base ho11) hb); have n1_ := Aside0.mk (Kd.R_elder' (pR HO413) (Kd.R_base ho11) hb); have n2_ := Aside0.mk (Kd.R_below (pR HO416) hb); have n3_ := Aside0.mk (Kd.R_lower (Kd.R_new' (Kd.R_new' ho11 (Kd.R_lt (pR HO410))) (Kd.R_lt (pR HO413))) (below_size (w := w) bW)); have n4_ := Aside0.mk (below_step (w := w) bW hb); clear HO410; clear HO413; clear HO416; clear HB; have HO410 := n0_; have HO413 := n1_; have HO416 := n2_; have HO419 := n3_; have HB := n4_; clear n0_ n1_ n2_ n3_ n4_; clear hb ho11))
  go_loopg [10, 11, 12] k (fun kq v10 v11 v12 w' => ∃ (x10_1 : List ByteArray) (x11_1 : List (S62)) (x12_1 : Int), v12 = .int .i64 x12_1 ∧ Aside0 (spec_l02Merge.l0 kq l1 t408 t411 x10_1 x11_1 x12_1 = some (r1, r2)) ∧ Aside0 (kq ≤ k) ∧ Aside0 (Kd.R k62 62 w' w.heap.size (fun k_ => some k_ ≠ (v412 : Value).ownBlock ∧ some k_ ≠ (v11 : Value).ownBlock) v409 t408) ∧ Aside0 (Kd.R k62 62 w' w.heap.size (fun k_ => some k_ ≠ (v409 : Value).ownBlock ∧ some k_ ≠ (v11 : Value).ownBlock) v412 t411) ∧ Aside0 (Kd.R Kd.string 9 w' w.heap.size (fun _ => True) v10 x10_1) ∧ Aside0 (Kd.R k62 62 w' w.heap.size (fun k_ => some k_ ≠ (v409 : Value).ownBlock ∧ some k_ ≠ (v412 : Value).ownBlock) v11 x11_1) ∧ Aside0 (Below w.heap.size w w'))
  case atStart => exact ⟨(y414), (y417), (0), vE, H', ⟨Nat.le_refl _⟩, ⟨by exact Kd.R_mono HO410.out (fun _ hk => ⟨hk.1.2, hk.2⟩)⟩, ⟨by exact Kd.R_mono HO413.out (fun _ hk => ⟨hk.1.2, hk.2⟩)⟩, ⟨by exact HO416.out⟩, ⟨by exact Kd.R_mono HO419.out (fun _ hk => ⟨hk.1.2, hk.2⟩)⟩, ⟨bW⟩⟩
  case round =>
    clear H'
    obtain ⟨x10_1, x11_1, x12_1, rfl, HA, HK1, HO_8, HO_9, HO_10, HO_11, HB⟩ := hrel
    cases gk with
    | zero => exact absurd HA.out (by simp [spec_l02Merge.l0])
    | succ k1 =>
      have H := HA.out
      clear HA
      simp only [spec_l02Merge.l0] at H
      by_cases c12 : x12_1 < (t411.length : Int)
      · rw [if_pos c12] at H
        have c12b0 : decide (x12_1 < (t411.length : Int)) = true := decide_eq_true c12
        clear c12
        by_cases c13 : 0 ≤ x12_1
        · rw [if_pos c13] at H
          have c13b0 : decide (0 ≤ x12_1) = true := decide_eq_true c13
          clear c13
          replace H := Option.bind_eq_some_iff.mp H
          obtain ⟨⟨t424, t425, t426, t427⟩, A140, H⟩ := H
          replace H : (if t427 = true then (if (!(t424.toList == (((rd_T62 t411 x12_1).f0).toList)) || (!(t425 == ((rd_T62 t411 x12_1).f1)) || (!(t426 == ((rd_T62 t411 x12_1).f2))))) = true then (if x10_1.length < 8796093022208 then (spec_l02Merge.l0 k1 l1 t408 t411 (x10_1 ++ [(rd_T62 t411 x12_1).f0]) x11_1 (wrap64 (x12_1 + 1))) else (none)) else (spec_l02Merge.l0 k1 l1 t408 t411 x10_1 x11_1 (wrap64 (x12_1 + 1)))) else (if x11_1.length < 4398046511104 then (spec_l02Merge.l0 k1 l1 t408 t411 x10_1 (x11_1 ++ [(⟨(rd_T62 t411 x12_1).f0, (rd_T62 t411 x12_1).f1, (rd_T62 t411 x12_1).f2⟩ : S62)]) (wrap64 (x12_1 + 1))) else (none))) = some (r1, r2) := H
          have A14 := Aside0.mk A140
          clear A140
          by_cases c15 : t427 = true
          · subst c15
            have H1 : (if (!(t424.toList == (((rd_T62 t411 x12_1).f0).toList)) || (!(t425 == ((rd_T62 t411 x12_1).f1)) || (!(t426 == ((rd_T62 t411 x12_1).f2))))) = true then (if x10_1.length < 8796093022208 then (spec_l02Merge.l0 k1 l1 t408 t411 (x10_1 ++ [(rd_T62 t411 x12_1).f0]) x11_1 (wrap64 (x12_1 + 1))) else (none)) else (spec_l02Merge.l0 k1 l1 t408 t411 x10_1 x11_1 (wrap64 (x12_1 + 1)))) = some (r1, r2) := by rw [if_pos rfl] at H; exact H
            clear H
            have H := H1
            clear H1
            by_cases c16 : (!(t424.toList == (((rd_T62 t411 x12_1).f0).toList)) || (!(t425 == ((rd_T62 t411 x12_1).f1)) || (!(t426 == ((rd_T62 t411 x12_1).f2))))) = true
            · rw [if_pos c16] at H
              have c16b0 : (!(t424.toList == (((rd_T62 t411 x12_1).f0).toList)) || (!(t425 == ((rd_T62 t411 x12_1).f1)) || (!(t426 == ((rd_T62 t411 x12_1).f2))))) = true := c16
              clear c16
              by_cases c17 : x10_1.length < 8796093022208
              · rw [if_pos c17] at H
                have LMc17 := Aside0.mk c17
                clear c17
                obtain ⟨y431, hy431⟩ : ∃ y_ : List ByteArray, y_ = (x10_1 ++ [(rd_T62 t411 x12_1).f0]) := ⟨_, rfl⟩
                replace H : (spec_l02Merge.l0 k1 l1 t408 t411 y431 x11_1 (wrap64 (x12_1 + 1))) = some (r1, r2) := by (rw [hy431]; with_reducible exact H)
                have Ny431 := Aside0.mk hy431
                clear hy431
                have H' := Aside0.mk H
                clear H
                obtain ⟨Ao18, co18, eo18⟩ := Kd.R_slice HO_9.out
                subst eo18
                have p423 : 0 ≤ (x12_1 : Int) := odt
                have q423 : x12_1 < (t411.length : Int) := odt
                obtain ⟨ad423, e423, hx423_0, hx423_1, hx423_2⟩ := at_T62 (Kd.R_reads' HO_9.out).2.2 x12_1 p423 q423
                cases e423
                replace p423 := eq_true p423
                replace q423 := eq_true q423
                obtain ⟨Ao19, co19, eo19⟩ := Kd.R_slice HO_8.out
                subst eo19
                go_wp2_with (first | (go_at_call 61; (with_reducible refine (spec_l02Find.calls k1 _ _ t408 ((rd_T62 t411 x12_1).f0) t424 t425 t426 true _ ?side1 ?side2 A14.out).mono ?_); (case side1 => repeat (exact (Kd.R_reads' HO_8.out).2.2)); (case side2 => exact (Kd.R_reads' HO_8.out).2.1); rintro e w20 ⟨rfl, hb⟩; have n0_ := Aside0.mk (Kd.R_below (pR HO_8) hb); have n1_ := Aside0.mk (Kd.R_below (pR HO_9) hb); have n2_ := Aside0.mk (Kd.R_below (pR HO_10) hb); have n3_ := Aside0.mk (Kd.R_below (pR HO_11) hb); have n4_ := Aside0.mk (below_step (w := w) bW hb); clear HO_8; clear HO_9; clear HO_10; clear HO_11; clear HB; have HO_8 := n0_; have HO_9 := n1_; have HO_10 := n2_; have HO_11 := n3_; have HB := n4_; clear n0_ n1_ n2_ n3_ n4_; (try clear hb)) | ((with_reducible refine gate_dst (N := 13) rfl ?_); refine bE (N := 13) (cs := #[.string (⟨#[]⟩ : ByteArray), .int .i64 0, .bool false]) (t := 62) ?_; intro gb428 hg w21 hbox hb; have n0_ := Aside0.mk (Kd.R_below (Kd.R_elderB (pR HO_8) gb428 (Nat.le_of_eq hg.symm)) hb); have n1_ := Aside0.mk (Kd.R_below (Kd.R_elderB (pR HO_9) gb428 (Nat.le_of_eq hg.symm)) hb); have n2_ := Aside0.mk (Kd.R_below (pR HO_10) hb); have n3_ := Aside0.mk (Kd.R_below (Kd.R_elderB (pR HO_11) gb428 (Nat.le_of_eq hg.symm)) hb); have n4_ := Aside0.mk (below_step (w := w) bW hb); have n5_ := Aside0.mk (hbox); have n6_ := Aside0.mk (gS (w := w) hg); have n7_ := n6_; clear HO_8; clear HO_9; clear HO_10; clear HO_11; clear HB; have HO_8 := n0_; have HO_9 := n1_; have HO_10 := n2_; have HO_11 := n3_; have HB := n4_; have BK428 := n5_; have GW428 := n6_; have GE428 := n7_; clear n0_ n1_ n2_ n3_ n4_ n5_ n6_ n7_; clear hb hbox hg; obtain ⟨hcz22_0, hcz22_1, hcz22_2⟩ := cz3 BK428; obtain ⟨hfz22_0, hfz22_1, hfz22_2⟩ := fz3 BK428; have p429 : 0 ≤ (x12_1 : Int) := odt; have q429 : x12_1 < (t411.length : Int) := odt; obtain ⟨ad429, e429, hx429_0, hx429_1, hx429_2⟩ := at_T62 (Kd.R_reads' HO_9.out).2.2 x12_1 p429 q429; obtain rfl : ad423 = ad429 := (by injection e429); have hn429_0 : ad423.block ≠ gb428 := Kd.own_blk (by exact Kd.R_away HO_9.out (fun _ hk => hk.2)); have hn429_1 : ad423.block ≠ gb428 := Kd.own_blk (by exact Kd.R_away HO_9.out (fun _ hk => hk.2)); have hn429_2 : ad423.block ≠ gb428 := Kd.own_blk (by exact Kd.R_away HO_9.out (fun _ hk => hk.2)); replace hx429_0 := (cell_far (p := ⟨gb428, 0, none⟩) (by (rw [add_block]; exact hn429_0)) (.string t424)).trans hx429_0; replace hx429_1 := (cell_far (p := ⟨gb428, 0, none⟩) (by (rw [add_block]; exact hn429_0)) (.string t424)).trans hx429_1; replace hx429_2 := (cell_far (p := ⟨gb428, 0, none⟩) (by (rw [add_block]; exact hn429_0)) (.string t424)).trans hx429_2; replace hx429_0 := (cell_far (p := ⟨gb428, 1, none⟩) (by (rw [add_block]; exact hn429_1)) (.int .i64 t425)).trans hx429_0; replace hx429_1 := (cell_far (p := ⟨gb428, 1, none⟩) (by (rw [add_block]; exact hn429_1)) (.int .i64 t425)).trans hx429_1; replace hx429_2 := (cell_far (p := ⟨gb428, 1, none⟩) (by (rw [add_block]; exact hn429_1)) (.int .i64 t425)).trans hx429_2; replace hx429_0 := (cell_far (p := ⟨gb428, 2, none⟩) (by (rw [add_block]; exact hn429_2)) (.bool t426)).trans hx429_0; replace hx429_1 := (cell_far (p := ⟨gb428, 2, none⟩) (by (rw [add_block]; exact hn429_2)) (.bool t426)).trans hx429_1; replace hx429_2 := (cell_far (p := ⟨gb428, 2, none⟩) (by (rw [add_block]; exact hn429_2)) (.bool t426)).trans hx429_2; (try have hy429_0 := fun (n_ : Nat) => (show (((((w21.drewN n_).setCell ⟨gb428, 0, none⟩ (.string t424)).setCell ⟨gb428, 1, none⟩ (.int .i64 t425)).setCell ⟨gb428, 2, none⟩ (.bool t426))).cell? _ = some _ from hx429_0)); (try have hy429_1 := fun (n_ : Nat) => (show (((((w21.drewN n_).setCell ⟨gb428, 0, none⟩ (.string t424)).setCell ⟨gb428, 1, none⟩ (.int .i64 t425)).setCell ⟨gb428, 2, none⟩ (.bool t426))).cell? _ = some _ from hx429_1)); (try have hy429_2 := fun (n_ : Nat) => (show (((((w21.drewN n_).setCell ⟨gb428, 0, none⟩ (.string t424)).setCell ⟨gb428, 1, none⟩ (.int .i64 t425)).setCell ⟨gb428, 2, none⟩ (.bool t426))).cell? _ = some _ from hx429_2)); clear hn429_0; clear hn429_1; clear hn429_2; replace p429 := eq_true p429; replace q429 := eq_true q429; have p430 : 0 ≤ (x12_1 : Int) := odt; have q430 : x12_1 < (t411.length : Int) := odt; obtain ⟨ad430, e430, hx430_0, hx430_1, hx430_2⟩ := at_T62 (Kd.R_reads' HO_9.out).2.2 x12_1 p430 q430; obtain rfl : ad423 = ad430 := (by injection e430); have hn430_0 : ad423.block ≠ gb428 := Kd.own_blk (by exact Kd.R_away HO_9.out (fun _ hk => hk.2)); have hn430_1 : ad423.block ≠ gb428 := Kd.own_blk (by exact Kd.R_away HO_9.out (fun _ hk => hk.2)); have hn430_2 : ad423.block ≠ gb428 := Kd.own_blk (by exact Kd.R_away HO_9.out (fun _ hk => hk.2)); replace hx430_0 := (cell_far (p := ⟨gb428, 0, none⟩) (by (rw [add_block]; exact hn430_0)) (.string t424)).trans hx430_0; replace hx430_1 := (cell_far (p := ⟨gb428, 0, none⟩) (by (rw [add_block]; exact hn430_0)) (.string t424)).trans hx430_1; replace hx430_2 := (cell_far (p := ⟨gb428, 0, none⟩) (by (rw [add_block]; exact hn430_0)) (.string t424)).trans hx430_2; replace hx430_0 := (cell_far (p := ⟨gb428, 1, none⟩) (by (rw [add_block]; exact hn430_1)) (.int .i64 t425)).trans hx430_0; replace hx430_1 := (cell_far (p := ⟨gb428, 1, none⟩) (by (rw [add_block]; exact hn430_1)) (.int .i64 t425)).trans hx430_1; replace hx430_2 := (cell_far (p := ⟨gb428, 1, none⟩) (by (rw [add_block]; exact hn430_1)) (.int .i64 t425)).trans hx430_2; replace hx430_0 := (cell_far (p := ⟨gb428, 2, none⟩) (by (rw [add_block]; exact hn430_2)) (.bool t426)).trans hx430_0; replace hx430_1 := (cell_far (p := ⟨gb428, 2, none⟩) (by (rw [add_block]; exact hn430_2)) (.bool t426)).trans hx430_1; replace hx430_2 := (cell_far (p := ⟨gb428, 2, none⟩) (by (rw [add_block]; exact hn430_2)) (.bool t426)).trans hx430_2; (try have hy430_0 := fun (n_ : Nat) => (show (((((w21.drewN n_).setCell ⟨gb428, 0, none⟩ (.string t424)).setCell ⟨gb428, 1, none⟩ (.int .i64 t425)).setCell ⟨gb428, 2, none⟩ (.bool t426))).cell? _ = some _ from hx430_0)); (try have hy430_1 := fun (n_ : Nat) => (show (((((w21.drewN n_).setCell ⟨gb428, 0, none⟩ (.string t424)).setCell ⟨gb428, 1, none⟩ (.int .i64 t425)).setCell ⟨gb428, 2, none⟩ (.bool t426))).cell? _ = some _ from hx430_1)); (try have hy430_2 := fun (n_ : Nat) => (show (((((w21.drewN n_).setCell ⟨gb428, 0, none⟩ (.string t424)).setCell ⟨gb428, 1, none⟩ (.int .i64 t425)).setCell ⟨gb428, 2, none⟩ (.bool t426))).cell? _ = some _ from hx430_2)); clear hn430_0; clear hn430_1; clear hn430_2; replace p430 := eq_true p430; replace q430 := eq_true q430))
                repeat (go_quiet (fail); try go_wp2_with (((with_reducible refine gate_builtin (b := .append) (xs := #[.tmp 54, .tmp 60]) rfl ?_); at_builtin; refine Kd.R_append Kd.string (w0 := w) w.heap.size rfl (.tmp 54) (.tmp 60) 24 9 (.string ⟨#[]⟩) 16 rfl Try.underlying24 info9 rfl (by decide) (by omega) u10 x10_1 ((rd_T62 t411 x12_1).f0) [.string ((rd_T62 t411 x12_1).f0)] (fun _ => True) (fun _ => False) rfl (by (go_simp; done)) ?aP (fun _ hk => hk.elim) ?aF ?aO ?aB ?aS ?aL ?_; (case aP => exact rfl); (case aB => exact bW); (case aF => exact (fun _ _ => trivial)); (case aO => exact (by (with_reducible repeat (apply Kd.R_drewN)); exact Kd.R_mono (Kd.R_far (p := ⟨gb428, 2, none⟩) (Kd.R_far (p := ⟨gb428, 1, none⟩) (Kd.R_far (p := ⟨gb428, 0, none⟩) (Kd.R_types HO_10.out BK428.out (by decide)) (fun _ hk => hk.2) (.string t424)) (fun _ hk => hk.2) (.int .i64 t425)) (fun _ hk => hk.2) (.bool t426)) (fun _ hk => trivial))); (case aS => exact (below_size (w := w) bW)); (case aL => have := LMc17.out; omega); intro v432 w23 ho hb hg hat; rw [← Ny431.out] at ho; have n0_ := Aside0.mk (Kd.R_over' (by (with_reducible repeat (apply Kd.R_drewN)); exact (Kd.R_mono (Kd.R_far (p := ⟨gb428, 2, none⟩) (Kd.R_far (p := ⟨gb428, 1, none⟩) (Kd.R_far (p := ⟨gb428, 0, none⟩) (Kd.R_mono HO_8.out (fun k_ hk => (⟨hk, hk.2⟩ : _ ∧ k_ ≠ gb428))) (fun _ hk => hk.2) (.string t424)) (fun _ hk => hk.2) (.int .i64 t425)) (fun _ hk => hk.2) (.bool t426)) (fun _ h_ => h_.1))) (Kd.R_typed (by (with_reducible repeat (apply Kd.R_drewN)); exact (Kd.R_mono (Kd.R_far (p := ⟨gb428, 2, none⟩) (Kd.R_far (p := ⟨gb428, 1, none⟩) (Kd.R_far (p := ⟨gb428, 0, none⟩) (Kd.R_types HO_10.out BK428.out (by decide)) (fun _ hk => hk.2) (.string t424)) (fun _ hk => hk.2) (.int .i64 t425)) (fun _ hk => hk.2) (.bool t426)) (fun _ h_ => h_.1)))) (by decide) hg); have n1_ := Aside0.mk (Kd.R_over' (by (with_reducible repeat (apply Kd.R_drewN)); exact (Kd.R_mono (Kd.R_far (p := ⟨gb428, 2, none⟩) (Kd.R_far (p := ⟨gb428, 1, none⟩) (Kd.R_far (p := ⟨gb428, 0, none⟩) (Kd.R_mono HO_9.out (fun k_ hk => (⟨hk, hk.2⟩ : _ ∧ k_ ≠ gb428))) (fun _ hk => hk.2) (.string t424)) (fun _ hk => hk.2) (.int .i64 t425)) (fun _ hk => hk.2) (.bool t426)) (fun _ h_ => h_.1))) (Kd.R_typed (by (with_reducible repeat (apply Kd.R_drewN)); exact (Kd.R_mono (Kd.R_far (p := ⟨gb428, 2, none⟩) (Kd.R_far (p := ⟨gb428, 1, none⟩) (Kd.R_far (p := ⟨gb428, 0, none⟩) (Kd.R_types HO_10.out BK428.out (by decide)) (fun _ hk => hk.2) (.string t424)) (fun _ hk => hk.2) (.int .i64 t425)) (fun _ hk => hk.2) (.bool t426)) (fun _ h_ => h_.1)))) (by decide) hg); have n2_ := Aside0.mk (Kd.R_over' (by (with_reducible repeat (apply Kd.R_drewN)); exact (Kd.R_mono (Kd.R_far (p := ⟨gb428, 2, none⟩) (Kd.R_far (p := ⟨gb428, 1, none⟩) (Kd.R_far (p := ⟨gb428, 0, none⟩) (Kd.R_mono HO_11.out (fun k_ hk => (⟨hk, hk.2⟩ : _ ∧ k_ ≠ gb428))) (fun _ hk => hk.2) (.string t424)) (fun _ hk => hk.2) (.int .i64 t425)) (fun _ hk => hk.2) (.bool t426)) (fun _ h_ => h_.1))) (Kd.R_typed (by (with_reducible repeat (apply Kd.R_drewN)); exact (Kd.R_mono (Kd.R_far (p := ⟨gb428, 2, none⟩) (Kd.R_far (p := ⟨gb428, 1, none⟩) (Kd.R_far (p := ⟨gb428, 0, none⟩) (Kd.R_types HO_10.out BK428.out (by decide)) (fun _ hk => hk.2) (.string t424)) (fun _ hk => hk.2) (.int .i64 t425)) (fun _ hk => hk.2) (.bool t426)) (fun _ h_ => h_.1)))) (by decide) hg); have n3_ := Aside0.mk (blk_grown (g := gb428) (o := .cells #[.string t424, .int .i64 t425, .bool t426] 62 (0, 0)) (by (with_reducible repeat (refine blk_drewN ?_ _)); refine blk_put (cs := #[.string t424, .int .i64 t425, .bool false]) ?_ 2 _ rfl; refine blk_put (cs := #[.string t424, .int .i64 0, .bool false]) ?_ 1 _ rfl; refine blk_put (cs := #[.string (⟨#[]⟩ : ByteArray), .int .i64 0, .bool false]) ?_ 0 _ rfl; exact BK428.out) hg (Kd.R_ne HO_10.out BK428.out (by decide))); have n4_ := Aside0.mk (hb); have n5_ := Aside0.mk (ho); clear HO_8; clear HO_9; clear HO_11; clear BK428; clear HB; clear HO_10; have HO_8 := n0_; have HO_9 := n1_; have HO_11 := n2_; have BK428 := n3_; have HB := n4_; have HO433 := n5_; clear n0_ n1_ n2_ n3_ n4_ n5_; clear ho hb hg hat)))
                go_roundg k1
                case measure => have := HK1.out; omega
                case rel => exact ⟨(y431), (x11_1), (wrap64 (x12_1 + 1)), vE, H', ⟨by have := HK1.out; omega⟩, ⟨by exact Kd.R_mono HO_8.out (fun _ hk => ⟨hk.1.1, hk.1.2⟩)⟩, ⟨by exact Kd.R_mono HO_9.out (fun _ hk => ⟨hk.1.1, hk.1.2⟩)⟩, ⟨by exact HO433.out⟩, ⟨by exact Kd.R_mono HO_11.out (fun _ hk => ⟨hk.1.1, hk.1.2⟩)⟩, ⟨bW⟩⟩
              · rw [if_neg c17] at H
                exact absurd H (by simp)
            · rw [if_neg c16] at H
              have c16b0 : (!(t424.toList == (((rd_T62 t411 x12_1).f0).toList)) || (!(t425 == ((rd_T62 t411 x12_1).f1)) || (!(t426 == ((rd_T62 t411 x12_1).f2))))) = false := by simpa using c16
              clear c16
              have H' := Aside0.mk H
              clear H
              obtain ⟨Ao24, co24, eo24⟩ := Kd.R_slice HO_9.out
              subst eo24
              have p423 : 0 ≤ (x12_1 : Int) := odt
              have q423 : x12_1 < (t411.length : Int) := odt
              obtain ⟨ad423, e423, hx423_0, hx423_1, hx423_2⟩ := at_T62 (Kd.R_reads' HO_9.out).2.2 x12_1 p423 q423
              cases e423
              replace p423 := eq_true p423
              replace q423 := eq_true q423
              obtain ⟨Ao25, co25, eo25⟩ := Kd.R_slice HO_8.out
              subst eo25
              go_wp2_with (first | (go_at_call 61; (with_reducible refine (spec_l02Find.calls k1 _ _ t408 ((rd_T62 t411 x12_1).f0) t424 t425 t426 true _ ?side1 ?side2 A14.out).mono ?_); (case side1 => repeat (exact (Kd.R_reads' HO_8.out).2.2)); (case side2 => exact (Kd.R_reads' HO_8.out).2.1); rintro e w26 ⟨rfl, hb⟩; have n0_ := Aside0.mk (Kd.R_below (pR HO_8) hb); have n1_ := Aside0.mk (Kd.R_below (pR HO_9) hb); have n2_ := Aside0.mk (Kd.R_below (pR HO_10) hb); have n3_ := Aside0.mk (Kd.R_below (pR HO_11) hb); have n4_ := Aside0.mk (below_step (w := w) bW hb); clear HO_8; clear HO_9; clear HO_10; clear HO_11; clear HB; have HO_8 := n0_; have HO_9 := n1_; have HO_10 := n2_; have HO_11 := n3_; have HB := n4_; clear n0_ n1_ n2_ n3_ n4_; (try clear hb)) | ((with_reducible refine gate_dst (N := 13) rfl ?_); refine bE (N := 13) (cs := #[.string (⟨#[]⟩ : ByteArray), .int .i64 0, .bool false]) (t := 62) ?_; intro gb428 hg w27 hbox hb; have n0_ := Aside0.mk (Kd.R_below (Kd.R_elderB (pR HO_8) gb428 (Nat.le_of_eq hg.symm)) hb); have n1_ := Aside0.mk (Kd.R_below (Kd.R_elderB (pR HO_9) gb428 (Nat.le_of_eq hg.symm)) hb); have n2_ := Aside0.mk (Kd.R_below (pR HO_10) hb); have n3_ := Aside0.mk (Kd.R_below (Kd.R_elderB (pR HO_11) gb428 (Nat.le_of_eq hg.symm)) hb); have n4_ := Aside0.mk (below_step (w := w) bW hb); have n5_ := Aside0.mk (hbox); have n6_ := Aside0.mk (gS (w := w) hg); have n7_ := n6_; clear HO_8; clear HO_9; clear HO_10; clear HO_11; clear HB; have HO_8 := n0_; have HO_9 := n1_; have HO_10 := n2_; have HO_11 := n3_; have HB := n4_; have BK428 := n5_; have GW428 := n6_; have GE428 := n7_; clear n0_ n1_ n2_ n3_ n4_ n5_ n6_ n7_; clear hb hbox hg; obtain ⟨hcz28_0, hcz28_1, hcz28_2⟩ := cz3 BK428; obtain ⟨hfz28_0, hfz28_1, hfz28_2⟩ := fz3 BK428; have p429 : 0 ≤ (x12_1 : Int) := odt; have q429 : x12_1 < (t411.length : Int) := odt; obtain ⟨ad429, e429, hx429_0, hx429_1, hx429_2⟩ := at_T62 (Kd.R_reads' HO_9.out).2.2 x12_1 p429 q429; obtain rfl : ad423 = ad429 := (by injection e429); have hn429_0 : ad423.block ≠ gb428 := Kd.own_blk (by exact Kd.R_away HO_9.out (fun _ hk => hk.2)); have hn429_1 : ad423.block ≠ gb428 := Kd.own_blk (by exact Kd.R_away HO_9.out (fun _ hk => hk.2)); have hn429_2 : ad423.block ≠ gb428 := Kd.own_blk (by exact Kd.R_away HO_9.out (fun _ hk => hk.2)); replace hx429_0 := (cell_far (p := ⟨gb428, 0, none⟩) (by (rw [add_block]; exact hn429_0)) (.string t424)).trans hx429_0; replace hx429_1 := (cell_far (p := ⟨gb428, 0, none⟩) (by (rw [add_block]; exact hn429_0)) (.string t424)).trans hx429_1; replace hx429_2 := (cell_far (p := ⟨gb428, 0, none⟩) (by (rw [add_block]; exact hn429_0)) (.string t424)).trans hx429_2; replace hx429_0 := (cell_far (p := ⟨gb428, 1, none⟩) (by (rw [add_block]; exact hn429_1)) (.int .i64 t425)).trans hx429_0; replace hx429_1 := (cell_far (p := ⟨gb428, 1, none⟩) (by (rw [add_block]; exact hn429_1)) (.int .i64 t425)).trans hx429_1; replace hx429_2 := (cell_far (p := ⟨gb428, 1, none⟩) (by (rw [add_block]; exact hn429_1)) (.int .i64 t425)).trans hx429_2; replace hx429_0 := (cell_far (p := ⟨gb428, 2, none⟩) (by (rw [add_block]; exact hn429_2)) (.bool t426)).trans hx429_0; replace hx429_1 := (cell_far (p := ⟨gb428, 2, none⟩) (by (rw [add_block]; exact hn429_2)) (.bool t426)).trans hx429_1; replace hx429_2 := (cell_far (p := ⟨gb428, 2, none⟩) (by (rw [add_block]; exact hn429_2)) (.bool t426)).trans hx429_2; (try have hy429_0 := fun (n_ : Nat) => (show (((((w27.drewN n_).setCell ⟨gb428, 0, none⟩ (.string t424)).setCell ⟨gb428, 1, none⟩ (.int .i64 t425)).setCell ⟨gb428, 2, none⟩ (.bool t426))).cell? _ = some _ from hx429_0)); (try have hy429_1 := fun (n_ : Nat) => (show (((((w27.drewN n_).setCell ⟨gb428, 0, none⟩ (.string t424)).setCell ⟨gb428, 1, none⟩ (.int .i64 t425)).setCell ⟨gb428, 2, none⟩ (.bool t426))).cell? _ = some _ from hx429_1)); (try have hy429_2 := fun (n_ : Nat) => (show (((((w27.drewN n_).setCell ⟨gb428, 0, none⟩ (.string t424)).setCell ⟨gb428, 1, none⟩ (.int .i64 t425)).setCell ⟨gb428, 2, none⟩ (.bool t426))).cell? _ = some _ from hx429_2)); clear hn429_0; clear hn429_1; clear hn429_2; replace p429 := eq_true p429; replace q429 := eq_true q429))
              repeat (go_quiet (fail); try go_wp2_with (fail))
              go_roundg k1
              case measure => have := HK1.out; omega
              case rel => exact ⟨(x10_1), (x11_1), (wrap64 (x12_1 + 1)), vE, H', ⟨by have := HK1.out; omega⟩, ⟨by (with_reducible repeat (apply Kd.R_drewN)); exact Kd.R_mono (Kd.R_far (p := ⟨gb428, 2, none⟩) (Kd.R_far (p := ⟨gb428, 1, none⟩) (Kd.R_far (p := ⟨gb428, 0, none⟩) (Kd.R_mono HO_8.out (fun k_ hk => (⟨hk, hk.2⟩ : _ ∧ k_ ≠ gb428))) (fun _ hk => hk.2) (.string t424)) (fun _ hk => hk.2) (.int .i64 t425)) (fun _ hk => hk.2) (.bool t426)) (fun _ hk => ⟨hk.1.1.1, hk.1.1.2⟩)⟩, ⟨by (with_reducible repeat (apply Kd.R_drewN)); exact Kd.R_mono (Kd.R_far (p := ⟨gb428, 2, none⟩) (Kd.R_far (p := ⟨gb428, 1, none⟩) (Kd.R_far (p := ⟨gb428, 0, none⟩) (Kd.R_mono HO_9.out (fun k_ hk => (⟨hk, hk.2⟩ : _ ∧ k_ ≠ gb428))) (fun _ hk => hk.2) (.string t424)) (fun _ hk => hk.2) (.int .i64 t425)) (fun _ hk => hk.2) (.bool t426)) (fun _ hk => ⟨hk.1.1.1, hk.1.1.2⟩)⟩, ⟨by (with_reducible repeat (apply Kd.R_drewN)); exact Kd.R_mono (Kd.R_far (p := ⟨gb428, 2, none⟩) (Kd.R_far (p := ⟨gb428, 1, none⟩) (Kd.R_far (p := ⟨gb428, 0, none⟩) (Kd.R_types HO_10.out BK428.out (by decide)) (fun _ hk => hk.2) (.string t424)) (fun _ hk => hk.2) (.int .i64 t425)) (fun _ hk => hk.2) (.bool t426)) (fun _ hk => trivial)⟩, ⟨by (with_reducible repeat (apply Kd.R_drewN)); exact Kd.R_mono (Kd.R_far (p := ⟨gb428, 2, none⟩) (Kd.R_far (p := ⟨gb428, 1, none⟩) (Kd.R_far (p := ⟨gb428, 0, none⟩) (Kd.R_mono HO_11.out (fun k_ hk => (⟨hk, hk.2⟩ : _ ∧ k_ ≠ gb428))) (fun _ hk => hk.2) (.string t424)) (fun _ hk => hk.2) (.int .i64 t425)) (fun _ hk => hk.2) (.bool t426)) (fun _ hk => ⟨hk.1.1.1, hk.1.1.2⟩)⟩, ⟨bW⟩⟩
          · replace c15 := Bool.eq_false_iff.mpr c15
            subst c15
            have H1 : (if x11_1.length < 4398046511104 then (spec_l02Merge.l0 k1 l1 t408 t411 x10_1 (x11_1 ++ [(⟨(rd_T62 t411 x12_1).f0, (rd_T62 t411 x12_1).f1, (rd_T62 t411 x12_1).f2⟩ : S62)]) (wrap64 (x12_1 + 1))) else (none)) = some (r1, r2) := by rw [if_neg (show ¬ (false = true) by decide)] at H; exact H
            clear H
            have H := H1
            clear H1
            by_cases c29 : x11_1.length < 4398046511104
            · rw [if_pos c29] at H
              have LMc29 := Aside0.mk c29
              clear c29
              obtain ⟨y435, hy435⟩ : ∃ y_ : List (S62), y_ = (x11_1 ++ [(⟨(rd_T62 t411 x12_1).f0, (rd_T62 t411 x12_1).f1, (rd_T62 t411 x12_1).f2⟩ : S62)]) := ⟨_, rfl⟩
              replace H : (spec_l02Merge.l0 k1 l1 t408 t411 x10_1 y435 (wrap64 (x12_1 + 1))) = some (r1, r2) := by (rw [hy435]; with_reducible exact H)
              have Ny435 := Aside0.mk hy435
              clear hy435
              have H' := Aside0.mk H
              clear H
              obtain ⟨Ao30, co30, eo30⟩ := Kd.R_slice HO_9.out
              subst eo30
              have p423 : 0 ≤ (x12_1 : Int) := odt
              have q423 : x12_1 < (t411.length : Int) := odt
              obtain ⟨ad423, e423, hx423_0, hx423_1, hx423_2⟩ := at_T62 (Kd.R_reads' HO_9.out).2.2 x12_1 p423 q423
              cases e423
              replace p423 := eq_true p423
              replace q423 := eq_true q423
              obtain ⟨Ao31, co31, eo31⟩ := Kd.R_slice HO_8.out
              subst eo31
              go_wp2_with (first | (go_at_call 61; (with_reducible refine (spec_l02Find.calls k1 _ _ t408 ((rd_T62 t411 x12_1).f0) t424 t425 t426 false _ ?side1 ?side2 A14.out).mono ?_); (case side1 => repeat (exact (Kd.R_reads' HO_8.out).2.2)); (case side2 => exact (Kd.R_reads' HO_8.out).2.1); rintro e w32 ⟨rfl, hb⟩; have n0_ := Aside0.mk (Kd.R_below (pR HO_8) hb); have n1_ := Aside0.mk (Kd.R_below (pR HO_9) hb); have n2_ := Aside0.mk (Kd.R_below (pR HO_10) hb); have n3_ := Aside0.mk (Kd.R_below (pR HO_11) hb); have n4_ := Aside0.mk (below_step (w := w) bW hb); clear HO_8; clear HO_9; clear HO_10; clear HO_11; clear HB; have HO_8 := n0_; have HO_9 := n1_; have HO_10 := n2_; have HO_11 := n3_; have HB := n4_; clear n0_ n1_ n2_ n3_ n4_; (try clear hb)) | ((with_reducible refine gate_dst (N := 13) rfl ?_); refine bE (N := 13) (cs := #[.string (⟨#[]⟩ : ByteArray), .int .i64 0, .bool false]) (t := 62) ?_; intro gb428 hg w33 hbox hb; have n0_ := Aside0.mk (Kd.R_below (Kd.R_elderB (pR HO_8) gb428 (Nat.le_of_eq hg.symm)) hb); have n1_ := Aside0.mk (Kd.R_below (Kd.R_elderB (pR HO_9) gb428 (Nat.le_of_eq hg.symm)) hb); have n2_ := Aside0.mk (Kd.R_below (pR HO_10) hb); have n3_ := Aside0.mk (Kd.R_below (Kd.R_elderB (pR HO_11) gb428 (Nat.le_of_eq hg.symm)) hb); have n4_ := Aside0.mk (below_step (w := w) bW hb); have n5_ := Aside0.mk (hbox); have n6_ := Aside0.mk (gS (w := w) hg); have n7_ := n6_; clear HO_8; clear HO_9; clear HO_10; clear HO_11; clear HB; have HO_8 := n0_; have HO_9 := n1_; have HO_10 := n2_; have HO_11 := n3_; have HB := n4_; have BK428 := n5_; have GW428 := n6_; have GE428 := n7_; clear n0_ n1_ n2_ n3_ n4_ n5_ n6_ n7_; clear hb hbox hg; obtain ⟨hcz34_0, hcz34_1, hcz34_2⟩ := cz3 BK428; obtain ⟨hfz34_0, hfz34_1, hfz34_2⟩ := fz3 BK428; have p434 : 0 ≤ (x12_1 : Int) := odt; have q434 : x12_1 < (t411.length : Int) := odt; obtain ⟨ad434, e434, hx434_0, hx434_1, hx434_2⟩ := at_T62 (Kd.R_reads' HO_9.out).2.2 x12_1 p434 q434; obtain rfl : ad423 = ad434 := (by injection e434); have hn434_0 : ad423.block ≠ gb428 := Kd.own_blk (by exact Kd.R_away HO_9.out (fun _ hk => hk.2)); have hn434_1 : ad423.block ≠ gb428 := Kd.own_blk (by exact Kd.R_away HO_9.out (fun _ hk => hk.2)); have hn434_2 : ad423.block ≠ gb428 := Kd.own_blk (by exact Kd.R_away HO_9.out (fun _ hk => hk.2)); replace hx434_0 := (cell_far (p := ⟨gb428, 0, none⟩) (by (rw [add_block]; exact hn434_0)) (.string t424)).trans hx434_0; replace hx434_1 := (cell_far (p := ⟨gb428, 0, none⟩) (by (rw [add_block]; exact hn434_0)) (.string t424)).trans hx434_1; replace hx434_2 := (cell_far (p := ⟨gb428, 0, none⟩) (by (rw [add_block]; exact hn434_0)) (.string t424)).trans hx434_2; replace hx434_0 := (cell_far (p := ⟨gb428, 1, none⟩) (by (rw [add_block]; exact hn434_1)) (.int .i64 t425)).trans hx434_0; replace hx434_1 := (cell_far (p := ⟨gb428, 1, none⟩) (by (rw [add_block]; exact hn434_1)) (.int .i64 t425)).trans hx434_1; replace hx434_2 := (cell_far (p := ⟨gb428, 1, none⟩) (by (rw [add_block]; exact hn434_1)) (.int .i64 t425)).trans hx434_2; replace hx434_0 := (cell_far (p := ⟨gb428, 2, none⟩) (by (rw [add_block]; exact hn434_2)) (.bool t426)).trans hx434_0; replace hx434_1 := (cell_far (p := ⟨gb428, 2, none⟩) (by (rw [add_block]; exact hn434_2)) (.bool t426)).trans hx434_1; replace hx434_2 := (cell_far (p := ⟨gb428, 2, none⟩) (by (rw [add_block]; exact hn434_2)) (.bool t426)).trans hx434_2; (try have hy434_0 := fun (n_ : Nat) => (show (((((w33.drewN n_).setCell ⟨gb428, 0, none⟩ (.string t424)).setCell ⟨gb428, 1, none⟩ (.int .i64 t425)).setCell ⟨gb428, 2, none⟩ (.bool t426))).cell? _ = some _ from hx434_0)); (try have hy434_1 := fun (n_ : Nat) => (show (((((w33.drewN n_).setCell ⟨gb428, 0, none⟩ (.string t424)).setCell ⟨gb428, 1, none⟩ (.int .i64 t425)).setCell ⟨gb428, 2, none⟩ (.bool t426))).cell? _ = some _ from hx434_1)); (try have hy434_2 := fun (n_ : Nat) => (show (((((w33.drewN n_).setCell ⟨gb428, 0, none⟩ (.string t424)).setCell ⟨gb428, 1, none⟩ (.int .i64 t425)).setCell ⟨gb428, 2, none⟩ (.bool t426))).cell? _ = some _ from hx434_2)); clear hn434_0; clear hn434_1; clear hn434_2; replace p434 := eq_true p434; replace q434 := eq_true q434) | ((with_reducible refine gate_builtin (b := .append) (xs := #[.tmp 41, .tmp 46]) rfl ?_); at_builtin; refine Kd.R_append k62 (w0 := w) w.heap.size rfl (.tmp 41) (.tmp 46) 34 62 (.agg #[(.string ⟨#[]⟩), (.int .i64 0), (.bool false)]) 32 rfl Try.underlying34 info62 rfl (by decide) (by omega) u11 x11_1 (⟨(rd_T62 t411 x12_1).f0, (rd_T62 t411 x12_1).f1, (rd_T62 t411 x12_1).f2⟩ : S62) [.string ((rd_T62 t411 x12_1).f0), .int .i64 ((rd_T62 t411 x12_1).f1), .bool ((rd_T62 t411 x12_1).f2)] (fun k_ => some k_ ≠ (.slice Ao31 t408.length co31 : Value).ownBlock ∧ some k_ ≠ (.slice (some ad423) t411.length co30 : Value).ownBlock ∧ k_ ≠ gb428) (fun _ => False) rfl (by (go_simp; done)) ?aP (fun _ hk => hk.elim) ?aF ?aO ?aB ?aS ?aL ?_; (case aP => exact k62_mkM _ _ _ (⟨(rd_T62 t411 x12_1).f0, (rd_T62 t411 x12_1).f1, (rd_T62 t411 x12_1).f2⟩ : S62)); (case aB => exact bW); (case aF => exact (fun k_ hk => ⟨Kd.fresh' (Kd.R_lt (by exact (Kd.R_mono (Kd.R_far (p := ⟨gb428, 2, none⟩) (Kd.R_far (p := ⟨gb428, 1, none⟩) (Kd.R_far (p := ⟨gb428, 0, none⟩) (Kd.R_mono HO_8.out (fun k_ hk => (⟨hk, hk.2⟩ : _ ∧ k_ ≠ gb428))) (fun _ hk => hk.2) (.string t424)) (fun _ hk => hk.2) (.int .i64 t425)) (fun _ hk => hk.2) (.bool t426)) (fun _ h_ => h_.1)))) k_ hk, Kd.fresh' (Kd.R_lt (by exact (Kd.R_mono (Kd.R_far (p := ⟨gb428, 2, none⟩) (Kd.R_far (p := ⟨gb428, 1, none⟩) (Kd.R_far (p := ⟨gb428, 0, none⟩) (Kd.R_mono HO_9.out (fun k_ hk => (⟨hk, hk.2⟩ : _ ∧ k_ ≠ gb428))) (fun _ hk => hk.2) (.string t424)) (fun _ hk => hk.2) (.int .i64 t425)) (fun _ hk => hk.2) (.bool t426)) (fun _ h_ => h_.1)))) k_ hk, Kd.freshB (g := gb428) (o := .cells #[.string t424, .int .i64 t425, .bool t426] 62 (0, 0)) (by refine blk_put (cs := #[.string t424, .int .i64 t425, .bool false]) ?_ 2 _ rfl; refine blk_put (cs := #[.string t424, .int .i64 0, .bool false]) ?_ 1 _ rfl; refine blk_put (cs := #[.string (⟨#[]⟩ : ByteArray), .int .i64 0, .bool false]) ?_ 0 _ rfl; exact BK428.out) k_ hk⟩)); (case aO => exact (by exact Kd.R_mono (Kd.R_far (p := ⟨gb428, 2, none⟩) (Kd.R_far (p := ⟨gb428, 1, none⟩) (Kd.R_far (p := ⟨gb428, 0, none⟩) (Kd.R_mono HO_11.out (fun k_ hk => (⟨hk, hk.2⟩ : _ ∧ k_ ≠ gb428))) (fun _ hk => hk.2) (.string t424)) (fun _ hk => hk.2) (.int .i64 t425)) (fun _ hk => hk.2) (.bool t426)) (fun _ hk => ⟨hk.1.1.1, ⟨hk.1.1.2, hk.1.2⟩⟩))); (case aS => exact (below_size (w := w) bW)); (case aL => have := LMc29.out; omega); intro v436 w35 ho hb hg hat; rw [← Ny435.out] at ho; have n0_ := Aside0.mk (Kd.R_after (ok := (fun k_ => some k_ ≠ (.slice (some ad423) t411.length co30 : Value).ownBlock ∧ k_ ≠ gb428)) (by exact Kd.R_mono (Kd.R_far (p := ⟨gb428, 2, none⟩) (Kd.R_far (p := ⟨gb428, 1, none⟩) (Kd.R_far (p := ⟨gb428, 0, none⟩) (Kd.R_mono HO_8.out (fun k_ hk => (⟨hk, hk.2⟩ : _ ∧ k_ ≠ gb428))) (fun _ hk => hk.2) (.string t424)) (fun _ hk => hk.2) (.int .i64 t425)) (fun _ hk => hk.2) (.bool t426)) (fun _ hk => ⟨⟨hk.1.1.1, hk.1.2⟩, hk.1.1.2⟩)) hg hat); have n1_ := Aside0.mk (Kd.R_after (ok := (fun k_ => some k_ ≠ (.slice Ao31 t408.length co31 : Value).ownBlock ∧ k_ ≠ gb428)) (by exact Kd.R_mono (Kd.R_far (p := ⟨gb428, 2, none⟩) (Kd.R_far (p := ⟨gb428, 1, none⟩) (Kd.R_far (p := ⟨gb428, 0, none⟩) (Kd.R_mono HO_9.out (fun k_ hk => (⟨hk, hk.2⟩ : _ ∧ k_ ≠ gb428))) (fun _ hk => hk.2) (.string t424)) (fun _ hk => hk.2) (.int .i64 t425)) (fun _ hk => hk.2) (.bool t426)) (fun _ hk => ⟨⟨hk.1.1.1, hk.1.2⟩, hk.1.1.2⟩)) hg hat); have n2_ := Aside0.mk (Kd.R_over' (by exact (Kd.R_mono (Kd.R_far (p := ⟨gb428, 2, none⟩) (Kd.R_far (p := ⟨gb428, 1, none⟩) (Kd.R_far (p := ⟨gb428, 0, none⟩) (Kd.R_types HO_10.out BK428.out (by decide)) (fun _ hk => hk.2) (.string t424)) (fun _ hk => hk.2) (.int .i64 t425)) (fun _ hk => hk.2) (.bool t426)) (fun _ h_ => h_.1))) (Kd.R_typed (by exact (Kd.R_mono (Kd.R_far (p := ⟨gb428, 2, none⟩) (Kd.R_far (p := ⟨gb428, 1, none⟩) (Kd.R_far (p := ⟨gb428, 0, none⟩) (Kd.R_mono HO_11.out (fun k_ hk => (⟨hk, hk.2⟩ : _ ∧ k_ ≠ gb428))) (fun _ hk => hk.2) (.string t424)) (fun _ hk => hk.2) (.int .i64 t425)) (fun _ hk => hk.2) (.bool t426)) (fun _ h_ => h_.1)))) (by decide) hg); have n3_ := Aside0.mk (blk_grown (g := gb428) (o := .cells #[.string t424, .int .i64 t425, .bool t426] 62 (0, 0)) (by refine blk_put (cs := #[.string t424, .int .i64 t425, .bool false]) ?_ 2 _ rfl; refine blk_put (cs := #[.string t424, .int .i64 0, .bool false]) ?_ 1 _ rfl; refine blk_put (cs := #[.string (⟨#[]⟩ : ByteArray), .int .i64 0, .bool false]) ?_ 0 _ rfl; exact BK428.out) hg (Kd.R_away HO_11.out (fun _ hk => hk.2))); have n4_ := Aside0.mk (hb); have n5_ := Aside0.mk (ho); clear HO_8; clear HO_9; clear HO_10; clear BK428; clear HB; clear HO_11; have HO_8 := n0_; have HO_9 := n1_; have HO_10 := n2_; have BK428 := n3_; have HB := n4_; have HO437 := n5_; clear n0_ n1_ n2_ n3_ n4_ n5_; clear ho hb hg hat))
              go_roundg k1
              case measure => have := HK1.out; omega
              case rel => exact ⟨(x10_1), (y435), (wrap64 (x12_1 + 1)), vE, H', ⟨by have := HK1.out; omega⟩, ⟨by exact Kd.R_mono HO_8.out (fun _ hk => ⟨hk.1.1, hk.2⟩)⟩, ⟨by exact Kd.R_mono HO_9.out (fun _ hk => ⟨hk.1.1, hk.2⟩)⟩, ⟨by exact HO_10.out⟩, ⟨by exact Kd.R_mono HO437.out (fun _ hk => ⟨hk.1, hk.2.1⟩)⟩, ⟨bW⟩⟩
            · rw [if_neg c29] at H
              exact absurd H (by simp)
        · rw [if_neg c13] at H
          exact absurd H (by simp)
      · rw [if_neg c12] at H
        have c12b0 : decide (x12_1 < (t411.length : Int)) = false := decide_eq_false c12
        clear c12
        replace H := Option.bind_eq_some_iff.mp H
        obtain ⟨t420, A360, H⟩ := H
        replace H : (some (t420, x10_1)) = some (r1, r2) := H
        have A36 := Aside0.mk A360
        clear A360
        simp only [Option.some.injEq, Prod.mk.injEq] at H
        obtain ⟨rfl, rfl⟩ := H
        obtain ⟨Ao37, co37, eo37⟩ := Kd.R_slice HO_9.out
        subst eo37
        obtain ⟨Ao38, co38, eo38⟩ := Kd.R_slice HO_11.out
        subst eo38
        go_wp2_with ((go_at_call 47; (with_reducible refine (spec_l01Apply.calls k1 _ _ l1 _ _ x11_1 t420 _ ?side1 ?side2 ?side3 ?side4 A36.out).mono ?_); (case side1 => exact cB HR1); (case side2 => exact HC1.out); (case side3 => repeat (exact (Kd.R_reads' HO_11.out).2.2)); (case side4 => exact (Kd.R_reads' HO_11.out).2.1); rintro e w39 ⟨v421, rfl, ho0, hb⟩; have n0_ := Aside0.mk (Kd.R_below (pR HO_8) hb); have n1_ := Aside0.mk (Kd.R_below (pR HO_9) hb); have n2_ := Aside0.mk (Kd.R_below (pR HO_10) hb); have n3_ := Aside0.mk (Kd.R_below (pR HO_11) hb); have n4_ := Aside0.mk (Kd.R_lower ho0 (below_size (w := w) bW)); have n5_ := Aside0.mk (below_step (w := w) bW hb); clear HO_8; clear HO_9; clear HO_10; clear HO_11; clear HB; have HO_8 := n0_; have HO_9 := n1_; have HO_10 := n2_; have HO_11 := n3_; have HO422 := n4_; have HB := n5_; clear n0_ n1_ n2_ n3_ n4_ n5_; (try clear hb); (try clear ho0)))
        go_ret2
        exact ⟨_, _, by rfl, by exact HO422.out, by exact HO_10.out, bW⟩
end Go.Proofs.Ytblejbgkcgajgaa.Q
end

section
namespace Go.Proofs.Ytblejbgkcgajgaa.Q
open Go.RowKit Go.Proofs.YtblejbgkcgajgaaW.PrintWords Go.Proofs.YtblejbgkcgajgaaW.PrintLast Go.Proofs.YtblejbgkcgajgaaW.PrintMore
attribute [local go_sem] max2_int min2_int max_two min_two max_three min_three max_four min_four   -- for this text's walks alone
set_option linter.unusedVariables false
set_option linter.unusedSimpArgs false
attribute [local go_sem] bin_leq bin_gtr bin_geq
def spec_l02Told.f (l0 : List (S55)) (l1 : List ByteArray) : Option ((List (S55)) × List ByteArray × Int) := if (l1.length : Int) > 0 then (some ((([] : List (S55))), l1, 11)) else (if (l0.length : Int) > 12 then (some ((([] : List (S55))), (([] : List ByteArray)), 7)) else (some (l0, (([] : List ByteArray)), 0)))
set_option maxHeartbeats 8000000 in
set_option maxRecDepth 100000 in
theorem spec_l02Told.calls (P0_ : Nat → Prop) (u9000_ : Value) (l0 : List (S55)) (P1_ : Nat → Prop) (u9001_ : Value) (l1 : List ByteArray) (r1 : List (S55)) (r2 : List ByteArray) (r3 : Int) (w0 w : World) (hB : Below w0.heap.size w0 w) (ho0 : Kd.R k55 55 w w0.heap.size P0_ u9000_ l0) (ho1 : Kd.R Kd.string 9 w w0.heap.size P1_ u9001_ l1) (h : spec_l02Told.f l0 l1 = some (r1, r2, r3)) :
    Calls Try.prog 43 #[u9000_, u9001_] w fun e w' => ∃ v0_ v1_ : Value, e = .returned (.tuple #[v0_, v1_, .int .i64 r3]) ∧ Kd.R k55 55 w' w0.heap.size (fun k_ => ((P0_ k_ ∨ P1_ k_) ∨ w.heap.size ≤ k_)) v0_ r1 ∧ Kd.R Kd.string 9 w' w0.heap.size (fun k_ => ((P0_ k_ ∨ P1_ k_) ∨ w.heap.size ≤ k_)) v1_ r2 ∧ Below w0.heap.size w0 w' ∧ Kept w w' (fun k_ => P0_ k_ ∨ P1_ k_) := by
  have HO0 := Aside0.mk (show Kd.R k55 55 w w0.heap.size (fun k_ => ((P0_ k_ ∨ P1_ k_) ∨ w.heap.size ≤ k_)) u9000_ l0 from Kd.R_mono ho0 (fun k_ hk => (.inl (.inl hk))))
  have HO1 := Aside0.mk (show Kd.R Kd.string 9 w w0.heap.size (fun k_ => ((P0_ k_ ∨ P1_ k_) ∨ w.heap.size ≤ k_)) u9001_ l1 from Kd.R_mono ho1 (fun k_ hk => (.inl (.inr hk))))
  have HK := Aside0.mk (Kept.refl w (fun k_ => P0_ k_ ∨ P1_ k_))
  have HW0 := Aside0.mk hB.size
  have HB := Aside0.mk hB
  clear hB
  have H : (if (l1.length : Int) > 0 then (some ((([] : List (S55))), l1, 11)) else (if (l0.length : Int) > 12 then (some ((([] : List (S55))), (([] : List ByteArray)), 7)) else (some (l0, (([] : List ByteArray)), 0)))) = some (r1, r2, r3) := h
  clear h
  by_cases c3 : (l1.length : Int) > 0
  · rw [if_pos c3] at H
    have c3b0 : decide (0 < (l1.length : Int)) = true := decide_eq_true c3
    have c3b1 : decide (0 < l1.length) = true := decide_eq_true (by omega)
    clear c3
    obtain ⟨y438, hy438⟩ : ∃ y_ : List (S55), y_ = (([] : List (S55))) := ⟨_, rfl⟩
    replace H : (some (y438, l1, 11)) = some (r1, r2, r3) := by (rw [hy438]; with_reducible exact H)
    have Ny438 := Aside0.mk hy438
    clear hy438
    simp only [Option.some.injEq, Prod.mk.injEq] at H
    obtain ⟨rfl, rfl, rfl⟩ := H
    obtain ⟨Ao4, co4, eo4⟩ := Kd.R_slice HO1.out
    subst eo4
    go_enter Try.func43, Try.ntmps43
    go_wp2_with (((with_reducible refine gate_dst (N := 10) rfl ?_); refine Kd.R_lit k55 _ 55 ?hg (N := 10) ?hd (xs := ([] : List (S55))) (inner := []) (ok := fun _ => True) (okp := fun _ => True) ?hr ?hp (fun _ hk => hk) trivial (Below.refl _ _) (Nat.le_refl _) (by simp) ?_; (case hd => rfl); (case hg => rfl); (case hr => (go_simp; done)); (case hp => exact (Reps.none _ _)); intro v439 w5 ho6 hb hg_ hnew_; clear hg_ hnew_; (rw [← Ny438.out] at ho6); have n0_ := Aside0.mk (Kd.R_elder' (pR HO0) (Kd.R_base ho6) hb); have n1_ := Aside0.mk (Kd.R_below (pR HO1) hb); have n2_ := Aside0.mk (Kd.R_lower (Kd.R_new' (Kd.R_newM (M := fun k_ => ((P0_ k_ ∨ P1_ k_) ∨ w.heap.size ≤ k_)) ho6 (by exact HK.out.1) (fun k_ h_ => .inr h_)) (Kd.R_lt (pR HO0))) (below_size (w := w0) bW)); have n3_ := Aside0.mk (Kept.below (S := (fun k_ => P0_ k_ ∨ P1_ k_)) (by repeat ((with_reducible exact HK.out))) hb); have n4_ := Aside0.mk (below_step (w := w0) bW hb); clear HO0; clear HO1; clear HK; clear HB; have HO0 := n0_; have HO1 := n1_; have HO440 := n2_; have HK := n3_; have HB := n4_; clear n0_ n1_ n2_ n3_ n4_; clear hb ho6))
    go_ret3
    exact ⟨_, _, by rfl, by exact Kd.R_mono HO440.out (fun _ hk => hk.1.1), by exact HO1.out, by repeat ((with_reducible exact HB.out)), by repeat ((with_reducible exact HK.out))⟩
  · rw [if_neg c3] at H
    have c3b0 : decide (0 < (l1.length : Int)) = false := decide_eq_false c3
    have c3b1 : decide (0 < l1.length) = false := decide_eq_false (by omega)
    clear c3
    by_cases c7 : (l0.length : Int) > 12
    · rw [if_pos c7] at H
      have c7b0 : decide (12 < (l0.length : Int)) = true := decide_eq_true c7
      have c7b1 : decide (12 < l0.length) = true := decide_eq_true (by omega)
      clear c7
      obtain ⟨y441, hy441⟩ : ∃ y_ : List (S55), y_ = (([] : List (S55))) := ⟨_, rfl⟩
      replace H : (some (y441, (([] : List ByteArray)), 7)) = some (r1, r2, r3) := by (rw [hy441]; with_reducible exact H)
      have Ny441 := Aside0.mk hy441
      clear hy441
      obtain ⟨y444, hy444⟩ : ∃ y_ : List ByteArray, y_ = (([] : List ByteArray)) := ⟨_, rfl⟩
      replace H : (some (y441, y444, 7)) = some (r1, r2, r3) := by (rw [hy444]; with_reducible exact H)
      have Ny444 := Aside0.mk hy444
      clear hy444
      simp only [Option.some.injEq, Prod.mk.injEq] at H
      obtain ⟨rfl, rfl, rfl⟩ := H
      obtain ⟨Ao8, co8, eo8⟩ := Kd.R_slice HO1.out
      subst eo8
      obtain ⟨Ao9, co9, eo9⟩ := Kd.R_slice HO0.out
      subst eo9
      go_enter Try.func43, Try.ntmps43
      go_wp2_with (first | ((with_reducible refine gate_dst (N := 15) rfl ?_); refine Kd.R_lit k55 _ 55 ?hg (N := 15) ?hd (xs := ([] : List (S55))) (inner := []) (ok := fun _ => True) (okp := fun _ => True) ?hr ?hp (fun _ hk => hk) trivial (Below.refl _ _) (Nat.le_refl _) (by simp) ?_; (case hd => rfl); (case hg => rfl); (case hr => (go_simp; done)); (case hp => exact (Reps.none _ _)); intro v442 w10 ho11 hb hg_ hnew_; clear hg_ hnew_; (rw [← Ny441.out] at ho11); have n0_ := Aside0.mk (Kd.R_elder' (pR HO0) (Kd.R_base ho11) hb); have n1_ := Aside0.mk (Kd.R_below (pR HO1) hb); have n2_ := Aside0.mk (Kd.R_lower (Kd.R_new' (Kd.R_newM (M := fun k_ => ((P0_ k_ ∨ P1_ k_) ∨ w.heap.size ≤ k_)) ho11 (by exact HK.out.1) (fun k_ h_ => .inr h_)) (Kd.R_lt (pR HO0))) (below_size (w := w0) bW)); have n3_ := Aside0.mk (Kept.below (S := (fun k_ => P0_ k_ ∨ P1_ k_)) (by repeat ((with_reducible exact HK.out))) hb); have n4_ := Aside0.mk (below_step (w := w0) bW hb); clear HO0; clear HO1; clear HK; clear HB; have HO0 := n0_; have HO1 := n1_; have HO443 := n2_; have HK := n3_; have HB := n4_; clear n0_ n1_ n2_ n3_ n4_; clear hb ho11) | ((with_reducible refine gate_dst (N := 16) rfl ?_); refine Kd.R_lit Kd.string _ 9 ?hg (N := 16) ?hd (xs := ([] : List ByteArray)) (inner := []) (ok := fun _ => True) (okp := fun _ => True) ?hr ?hp (fun _ hk => hk) trivial (Below.refl _ _) (Nat.le_refl _) (by simp) ?_; (case hd => rfl); (case hg => rfl); (case hr => (go_simp; done)); (case hp => exact (Reps.none _ _)); intro v445 w12 ho13 hb hg_ hnew_; clear hg_ hnew_; (rw [← Ny444.out] at ho13); have n0_ := Aside0.mk (Kd.R_below (pR HO0) hb); have n1_ := Aside0.mk (Kd.R_elder' (pR HO1) (Kd.R_base ho13) hb); have n2_ := Aside0.mk (Kd.R_below (pR HO443) hb); have n3_ := Aside0.mk (Kd.R_lower (Kd.R_new' (Kd.R_newM (M := fun k_ => ((P0_ k_ ∨ P1_ k_) ∨ w.heap.size ≤ k_)) ho13 (by exact HK.out.1) (fun k_ h_ => .inr h_)) (Kd.R_lt (pR HO1))) (below_size (w := w0) bW)); have n4_ := Aside0.mk (Kept.below (S := (fun k_ => P0_ k_ ∨ P1_ k_)) (by repeat ((with_reducible exact HK.out))) hb); have n5_ := Aside0.mk (below_step (w := w0) bW hb); clear HO0; clear HO1; clear HO443; clear HK; clear HB; have HO0 := n0_; have HO1 := n1_; have HO443 := n2_; have HO446 := n3_; have HK := n4_; have HB := n5_; clear n0_ n1_ n2_ n3_ n4_ n5_; clear hb ho13))
      go_ret3
      exact ⟨_, _, by rfl, by exact Kd.R_mono HO443.out (fun _ hk => hk.1.1), by exact Kd.R_mono HO446.out (fun _ hk => hk.1.1), by repeat ((with_reducible exact HB.out)), by repeat ((with_reducible exact HK.out))⟩
    · rw [if_neg c7] at H
      have c7b0 : decide (12 < (l0.length : Int)) = false := decide_eq_false c7
      have c7b1 : decide (12 < l0.length) = false := decide_eq_false (by omega)
      clear c7
      obtain ⟨y447, hy447⟩ : ∃ y_ : List ByteArray, y_ = (([] : List ByteArray)) := ⟨_, rfl⟩
      replace H : (some (l0, y447, 0)) = some (r1, r2, r3) := by (rw [hy447]; with_reducible exact H)
      have Ny447 := Aside0.mk hy447
      clear hy447
      simp only [Option.some.injEq, Prod.mk.injEq] at H
      obtain ⟨rfl, rfl, rfl⟩ := H
      obtain ⟨Ao14, co14, eo14⟩ := Kd.R_slice HO1.out
      subst eo14
      obtain ⟨Ao15, co15, eo15⟩ := Kd.R_slice HO0.out
      subst eo15
      go_enter Try.func43, Try.ntmps43
      go_wp2_with (((with_reducible refine gate_dst (N := 18) rfl ?_); refine Kd.R_lit Kd.string _ 9 ?hg (N := 18) ?hd (xs := ([] : List ByteArray)) (inner := []) (ok := fun _ => True) (okp := fun _ => True) ?hr ?hp (fun _ hk => hk) trivial (Below.refl _ _) (Nat.le_refl _) (by simp) ?_; (case hd => rfl); (case hg => rfl); (case hr => (go_simp; done)); (case hp => exact (Reps.none _ _)); intro v448 w16 ho17 hb hg_ hnew_; clear hg_ hnew_; (rw [← Ny447.out] at ho17); have n0_ := Aside0.mk (Kd.R_below (pR HO0) hb); have n1_ := Aside0.mk (Kd.R_elder' (pR HO1) (Kd.R_base ho17) hb); have n2_ := Aside0.mk (Kd.R_lower (Kd.R_new' (Kd.R_newM (M := fun k_ => ((P0_ k_ ∨ P1_ k_) ∨ w.heap.size ≤ k_)) ho17 (by exact HK.out.1) (fun k_ h_ => .inr h_)) (Kd.R_lt (pR HO1))) (below_size (w := w0) bW)); have n3_ := Aside0.mk (Kept.below (S := (fun k_ => P0_ k_ ∨ P1_ k_)) (by repeat ((with_reducible exact HK.out))) hb); have n4_ := Aside0.mk (below_step (w := w0) bW hb); clear HO0; clear HO1; clear HK; clear HB; have HO0 := n0_; have HO1 := n1_; have HO449 := n2_; have HK := n3_; have HB := n4_; clear n0_ n1_ n2_ n3_ n4_; clear hb ho17))
      go_ret3
      exact ⟨_, _, by rfl, by exact HO0.out, by exact Kd.R_mono HO449.out (fun _ hk => hk.1.1), by repeat ((with_reducible exact HB.out)), by repeat ((with_reducible exact HK.out))⟩
end Go.Proofs.Ytblejbgkcgajgaa.Q
end

section
namespace Go.Proofs.Ytblejbgkcgajgaa.Q
open Go.RowKit Go.Proofs.YtblejbgkcgajgaaW.PrintWords Go.Proofs.YtblejbgkcgajgaaW.PrintLast Go.Proofs.YtblejbgkcgajgaaW.PrintMore
attribute [local go_sem] max2_int min2_int max_two min_two max_three min_three max_four min_four   -- for this text's walks alone
set_option linter.unusedVariables false
set_option linter.unusedSimpArgs false
attribute [local go_sem] bin_leq bin_gtr bin_geq
def edB (e : S62) : Bool := nameB e.f0 && inB e.f1 (-1000000) 1000000 && !(e.f2 && decide (e.f1 ≠ 0))
def edAt (m : List S62) (j : Nat) : Bool := edB (rd_T62 m (j : Int)) && (j == 0 || sblt (rd_T62 m ((j : Int) - 1)).f0 (rd_T62 m (j : Int)).f0)
def editsB (m : List S62) : Bool := decide (m.length ≤ 6) && allR (edAt m) m.length
end Go.Proofs.Ytblejbgkcgajgaa.Q
end

section
namespace Go.Proofs.Ytblejbgkcgajgaa.Q
open Go.RowKit Go.Proofs.YtblejbgkcgajgaaW.PrintWords Go.Proofs.YtblejbgkcgajgaaW.PrintLast Go.Proofs.YtblejbgkcgajgaaW.PrintMore
attribute [local go_sem] max2_int min2_int max_two min_two max_three min_three max_four min_four   -- for this text's walks alone
set_option linter.unusedVariables false
set_option linter.unusedSimpArgs false
attribute [local go_sem] bin_leq bin_gtr bin_geq
def spec_l01Edits.f (l0 : List (S62)) : Option (Bool) := some (editsB l0)
set_option maxHeartbeats 8000000 in
set_option maxRecDepth 100000 in
theorem spec_l01Edits.calls (A0 : Option Addr) (c0 : Nat) (l0 : List (S62)) (r : Bool) (w : World) (hr0 : Kd.C k62 w A0 l0.length l0) (hc0 : l0.length ≤ c0) (h : spec_l01Edits.f l0 = some r) :
    Calls Try.prog 46 #[.slice A0 l0.length c0] w fun e w' => e = .returned (.bool r) ∧ Below w.heap.size w w' := by
  obtain rfl := Option.some.inj h
  clear h
  have HM : l0.length ≤ 9223372036854775807 := hr0.2.1
  have HR0 := Aside0.mk hr0
  clear hr0 hc0
  by_cases hlen : l0.length ≤ 6
  · have RT := Aside0.mk (show allR (edAt l0) l0.length = editsB l0 by simp [editsB, hlen])
    go_enter Try.func46, Try.ntmps46
    go_wp2
    go_loopg [3] l0.length (fun gk v3 w' => ∃ x : Int, v3 = .int .i64 x ∧ 0 ≤ x ∧ x ≤ l0.length ∧ l0.length - x.toNat ≤ gk ∧ Aside0 (∀ j, j < x.toNat → edAt l0 j = true) ∧ Aside0 (Below w.heap.size w w'))
    case atStart => exact ⟨0, rfl, by omega, by omega, by omega, ⟨fun j hj => absurd hj (by simp)⟩, ⟨Below.refl _ _⟩⟩
    case round =>
      obtain ⟨x, rfl, h0, h1, hg, HA, HB⟩ := hrel
      by_cases hlt : x < (l0.length : Int)
      · have HRW := Aside0.mk (Kd.C_below HR0.out HB.out)
        obtain ⟨ad, e1, hx0, hx1, hx2⟩ := at_T62 HRW.out x h0 hlt
        cases e1
        have ex : ((x.toNat : Nat) : Int) = x := by omega
        have E0 := Aside0.mk (show edAt l0 x.toNat = (edB (rd_T62 l0 x) && (x.toNat == 0 || sblt (rd_T62 l0 (x - 1)).f0 (rd_T62 l0 x).f0)) by unfold edAt; rw [ex])
        clear ex
        cases hN : nameB (rd_T62 l0 x).f0 with
        | false =>
          have HN := Aside0.mk hN
          clear hN
          have E1 := Aside0.mk (show editsB l0 = false by rw [← RT.out]; exact allR_false (j := x.toNat) (by omega) (by rw [E0.out, edB, HN.out]; simp))
          go_wp2
          go_quiet ((go_at_call 54; exact quiet_ (l00Word_call _ _ _ HN.out)))
          go_wp2
          go_ret
          exact ⟨by rw [E1.out]; rfl, bW⟩
        | true =>
          have HN := Aside0.mk hN
          clear hN
          cases hV : inB (rd_T62 l0 x).f1 (-1000000) 1000000 with
          | false =>
            have HV := Aside0.mk hV
            clear hV
            have E1 := Aside0.mk (show editsB l0 = false by rw [← RT.out]; exact allR_false (j := x.toNat) (by omega) (by rw [E0.out, edB, HN.out, HV.out]; simp))
            go_wp2
            go_quiet ((first | (go_at_call 54; exact quiet_ (l00Word_call _ _ _ HN.out)) | (go_at_call 55; exact quiet_ (l01In_call _ _ _ _ _ HV.out))))
            go_wp2
            go_ret
            exact ⟨by rw [E1.out]; rfl, bW⟩
          | true =>
            have HV := Aside0.mk hV
            clear hV
            obtain ⟨g, hg2⟩ : ∃ g, g = (rd_T62 l0 x).f2 := ⟨_, rfl⟩
            rw [← hg2] at hx2
            have HG := Aside0.mk hg2.symm
            clear hg2
            cases g with
            | true =>
              by_cases hz : (rd_T62 l0 x).f1 = 0
              · have HZ := Aside0.mk hz
                have hzb : ((rd_T62 l0 x).f1 != 0) = false := bne_eq_false_iff_eq.mpr hz
                clear hz
                have HZ2 := Aside0.mk (show decide ((rd_T62 l0 x).f1 ≠ 0) = false by simp [HZ.out])
                by_cases hpos : 0 < x
                · obtain ⟨ad', e2, hz0, hz1, hz2⟩ := at_T62 HRW.out (x - 1) (by omega) (by omega)
                  cases e2
                  rw [show (x - 1).toNat = x.toNat - 1 by omega] at hz0
                  have hn := World.block_lt_of_cell? wr _ hz0
                  clear hz1 hz2
                  have h2 := Aside0.mk (show (x.toNat == 0) = false by simp; omega)
                  cases hS : sblt (rd_T62 l0 (x - 1)).f0 (rd_T62 l0 x).f0 with
                  | false =>
                    have HS := Aside0.mk hS
                    have E1 := Aside0.mk (show editsB l0 = false by rw [← RT.out]; exact allR_false (j := x.toNat) (by omega) (by rw [E0.out, edB, HN.out, HV.out, HG.out, HZ2.out, HS.out, h2.out]; simp))
                    have hS1 : Op.bytesLess (rd_T62 l0 (x - 1)).f0.toList (rd_T62 l0 x).f0.toList = false := hS
                    clear hS
                    have p1 : 0 ≤ x - 1 := by omega
                    have p2 : x - 1 < (l0.length : Int) := by omega
                    have p3 : 1 ≤ x := by omega
                    have hwr : IntKind.i64.wrap (x - 1) = x - 1 := IntWalk.i64_in _ (by omega)
                    go_wp2
                    go_quiet ((first | (go_at_call 54; exact quiet_ (l00Word_call _ _ _ HN.out)) | (go_at_call 55; exact quiet_ (l01In_call _ _ _ _ _ HV.out))))
                    clear hwr
                    go_wp2
                    go_ret
                    exact ⟨by rw [E1.out]; rfl, bW⟩
                  | true =>
                    have HS := Aside0.mk hS
                    have E1 := Aside0.mk (show edAt l0 x.toNat = true by rw [E0.out, edB, HN.out, HV.out, HG.out, HZ2.out, HS.out]; simp)
                    have hS1 : Op.bytesLess (rd_T62 l0 (x - 1)).f0.toList (rd_T62 l0 x).f0.toList = true := hS
                    clear hS
                    have p1 : 0 ≤ x - 1 := by omega
                    have p2 : x - 1 < (l0.length : Int) := by omega
                    have p3 : 1 ≤ x := by omega
                    have hwr : IntKind.i64.wrap (x - 1) = x - 1 := IntWalk.i64_in _ (by omega)
                    go_wp2
                    go_quiet ((first | (go_at_call 54; exact quiet_ (l00Word_call _ _ _ HN.out)) | (go_at_call 55; exact quiet_ (l01In_call _ _ _ _ _ HV.out))))
                    clear hwr
                    go_wp2
                    go_roundg (l0.length - (x.toNat + 1))
                    case measure => omega
                    case rel => exact ⟨x + 1, by go_num, by omega, by omega, by omega, ⟨fun j hj => by
                      by_cases e : j = x.toNat
                      · rw [e]; exact E1.out
                      · exact HA.out j (by omega)⟩, ⟨bW⟩⟩
                · have h2 := Aside0.mk (show (x.toNat == 0) = true by simp; omega)
                  have p0 : decide (0 < x) = false := decide_eq_false hpos
                  have E1 := Aside0.mk (show edAt l0 x.toNat = true by rw [E0.out, edB, HN.out, HV.out, HG.out, HZ2.out, h2.out]; simp)
                  go_wp2
                  go_quiet ((first | (go_at_call 54; exact quiet_ (l00Word_call _ _ _ HN.out)) | (go_at_call 55; exact quiet_ (l01In_call _ _ _ _ _ HV.out))))
                  go_wp2
                  go_roundg (l0.length - (x.toNat + 1))
                  case measure => omega
                  case rel => exact ⟨x + 1, by go_num, by omega, by omega, by omega, ⟨fun j hj => by
                    by_cases e : j = x.toNat
                    · rw [e]; exact E1.out
                    · exact HA.out j (by omega)⟩, ⟨bW⟩⟩
              · have HZ2 := Aside0.mk (show decide ((rd_T62 l0 x).f1 ≠ 0) = true by simp [hz])
                have hzb : ((rd_T62 l0 x).f1 != 0) = true := bne_iff_ne.mpr hz
                clear hz
                have E1 := Aside0.mk (show editsB l0 = false by rw [← RT.out]; exact allR_false (j := x.toNat) (by omega) (by rw [E0.out, edB, HN.out, HV.out, HG.out, HZ2.out]; simp))
                go_wp2
                go_quiet ((first | (go_at_call 54; exact quiet_ (l00Word_call _ _ _ HN.out)) | (go_at_call 55; exact quiet_ (l01In_call _ _ _ _ _ HV.out))))
                go_wp2
                go_ret
                exact ⟨by rw [E1.out]; rfl, bW⟩
            | false =>
              by_cases hpos : 0 < x
              · obtain ⟨ad', e2, hz0, hz1, hz2⟩ := at_T62 HRW.out (x - 1) (by omega) (by omega)
                cases e2
                rw [show (x - 1).toNat = x.toNat - 1 by omega] at hz0
                have hn := World.block_lt_of_cell? wr _ hz0
                clear hz1 hz2
                have h2 := Aside0.mk (show (x.toNat == 0) = false by simp; omega)
                cases hS : sblt (rd_T62 l0 (x - 1)).f0 (rd_T62 l0 x).f0 with
                | false =>
                  have HS := Aside0.mk hS
                  have E1 := Aside0.mk (show editsB l0 = false by rw [← RT.out]; exact allR_false (j := x.toNat) (by omega) (by rw [E0.out, edB, HN.out, HV.out, HG.out, HS.out, h2.out]; simp))
                  have hS1 : Op.bytesLess (rd_T62 l0 (x - 1)).f0.toList (rd_T62 l0 x).f0.toList = false := hS
                  clear hS
                  have p1 : 0 ≤ x - 1 := by omega
                  have p2 : x - 1 < (l0.length : Int) := by omega
                  have p3 : 1 ≤ x := by omega
                  have hwr : IntKind.i64.wrap (x - 1) = x - 1 := IntWalk.i64_in _ (by omega)
                  go_wp2
                  go_quiet ((first | (go_at_call 54; exact quiet_ (l00Word_call _ _ _ HN.out)) | (go_at_call 55; exact quiet_ (l01In_call _ _ _ _ _ HV.out))))
                  clear hwr
                  go_wp2
                  go_ret
                  exact ⟨by rw [E1.out]; rfl, bW⟩
                | true =>
                  have HS := Aside0.mk hS
                  have E1 := Aside0.mk (show edAt l0 x.toNat = true by rw [E0.out, edB, HN.out, HV.out, HG.out, HS.out]; simp)
                  have hS1 : Op.bytesLess (rd_T62 l0 (x - 1)).f0.toList (rd_T62 l0 x).f0.toList = true := hS
                  clear hS
                  have p1 : 0 ≤ x - 1 := by omega
                  have p2 : x - 1 < (l0.length : Int) := by omega
                  have p3 : 1 ≤ x := by omega
                  have hwr : IntKind.i64.wrap (x - 1) = x - 1 := IntWalk.i64_in _ (by omega)
                  go_wp2
                  go_quiet ((first | (go_at_call 54; exact quiet_ (l00Word_call _ _ _ HN.out)) | (go_at_call 55; exact quiet_ (l01In_call _ _ _ _ _ HV.out))))
                  clear hwr
                  go_wp2
                  go_roundg (l0.length - (x.toNat + 1))
                  case measure => omega
                  case rel => exact ⟨x + 1, by go_num, by omega, by omega, by omega, ⟨fun j hj => by
                    by_cases e : j = x.toNat
                    · rw [e]; exact E1.out
                    · exact HA.out j (by omega)⟩, ⟨bW⟩⟩
              · have h2 := Aside0.mk (show (x.toNat == 0) = true by simp; omega)
                have p0 : decide (0 < x) = false := decide_eq_false hpos
                have E1 := Aside0.mk (show edAt l0 x.toNat = true by rw [E0.out, edB, HN.out, HV.out, HG.out, h2.out]; simp)
                go_wp2
                go_quiet ((first | (go_at_call 54; exact quiet_ (l00Word_call _ _ _ HN.out)) | (go_at_call 55; exact quiet_ (l01In_call _ _ _ _ _ HV.out))))
                go_wp2
                go_roundg (l0.length - (x.toNat + 1))
                case measure => omega
                case rel => exact ⟨x + 1, by go_num, by omega, by omega, by omega, ⟨fun j hj => by
                  by_cases e : j = x.toNat
                  · rw [e]; exact E1.out
                  · exact HA.out j (by omega)⟩, ⟨bW⟩⟩
      · have E1 := Aside0.mk (show editsB l0 = true by rw [← RT.out]; exact allR_true (fun j hj => HA.out j (by omega)))
        obtain rfl : x = (l0.length : Int) := by omega
        go_wp2
        go_ret
        exact ⟨by rw [E1.out]; rfl, HB.out⟩
  · have RT := Aside0.mk (show false = editsB l0 by simp [editsB, hlen])
    go_enter Try.func46, Try.ntmps46
    go_wp2
    go_ret
    exact ⟨by rw [← RT.out]; rfl, Below.refl _ _⟩
end Go.Proofs.Ytblejbgkcgajgaa.Q
end

section
namespace Go.Proofs.Ytblejbgkcgajgaa.Q
open Go.RowKit Go.Proofs.YtblejbgkcgajgaaW.PrintWords Go.Proofs.YtblejbgkcgajgaaW.PrintLast Go.Proofs.YtblejbgkcgajgaaW.PrintMore
attribute [local go_sem] max2_int min2_int max_two min_two max_three min_three max_four min_four   -- for this text's walks alone
set_option linter.unusedVariables false
set_option linter.unusedSimpArgs false
attribute [local go_sem] bin_leq bin_gtr bin_geq
mutual
def spec_MergeEdits.j0 : Nat → List (S55) → List (S62) → List (S62) → Bool → Option ((List (S55)) × List ByteArray × Int)
  | 0, _, _, _, _ => none
  | k + 1, x0, x1, x2, x23 => if x23 = true then (some ((([] : List (S55))), (([] : List ByteArray)), 2)) else ((spec_l01OK.f x0).bind fun t729 => (if t729 = true then ((spec_l01Edits.f x1).bind fun t730 => (if t730 = true then ((spec_l01Edits.f x2).bind fun t731 => (spec_MergeEdits.j1 k x0 x1 x2 (!t731))) else (spec_MergeEdits.j1 k x0 x1 x2 true))) else (spec_MergeEdits.j1 k x0 x1 x2 true)))
def spec_MergeEdits.j1 : Nat → List (S55) → List (S62) → List (S62) → Bool → Option ((List (S55)) × List ByteArray × Int)
  | 0, _, _, _, _ => none
  | k + 1, x0, x1, x2, x38 => if x38 = true then (some ((([] : List (S55))), (([] : List ByteArray)), 1)) else ((spec_l01Apply.f k x0 x1).bind fun t738 => ((spec_l01Apply.f k x0 x2).bind fun t741 => ((spec_l02Merge.f k x0 t738 t741).bind fun bt744 => ((spec_l02Told.f bt744.1 bt744.2).bind fun bt750 => (some (bt750.1, bt750.2.1, bt750.2.2))))))
end
def spec_MergeEdits.f (k : Nat) (l0 : List (S55)) (l1 : List (S62)) (l2 : List (S62)) : Option ((List (S55)) × List ByteArray × Int) := if (l0.length : Int) > 4096 then (spec_MergeEdits.j0 k l0 l1 l2 true) else (if (l1.length : Int) > 4096 then (spec_MergeEdits.j0 k l0 l1 l2 true) else (spec_MergeEdits.j0 k l0 l1 l2 (decide ((l2.length : Int) > 4096))))
set_option maxHeartbeats 8000000 in
set_option maxRecDepth 100000 in
theorem spec_MergeEdits.calls (k : Nat) (A0 : Option Addr) (c0 : Nat) (l0 : List (S55)) (A1 : Option Addr) (c1 : Nat) (l1 : List (S62)) (A2 : Option Addr) (c2 : Nat) (l2 : List (S62)) (r1 : List (S55)) (r2 : List ByteArray) (r3 : Int) (w : World) (hr0 : Kd.C k55 w A0 l0.length l0) (hc0 : l0.length ≤ c0) (hr1 : Kd.C k62 w A1 l1.length l1) (hc1 : l1.length ≤ c1) (hr2 : Kd.C k62 w A2 l2.length l2) (hc2 : l2.length ≤ c2) (h : spec_MergeEdits.f k l0 l1 l2 = some (r1, r2, r3)) :
    Calls Try.prog 28 #[.slice A0 l0.length c0, .slice A1 l1.length c1, .slice A2 l2.length c2] w fun e w' => ∃ v0_ v1_ : Value, e = .returned (.tuple #[v0_, v1_, .int .i64 r3]) ∧ Kd.R k55 55 w' w.heap.size (fun _ => True) v0_ r1 ∧ Kd.R Kd.string 9 w' w.heap.size (fun _ => True) v1_ r2 ∧ Below w.heap.size w w' := by
  have HR0 := Aside0.mk hr0
  have HC0 := Aside0.mk hc0
  clear hr0 hc0
  have HR1 := Aside0.mk hr1
  have HC1 := Aside0.mk hc1
  clear hr1 hc1
  have HR2 := Aside0.mk hr2
  have HC2 := Aside0.mk hc2
  clear hr2 hc2
  have HB := Aside0.mk (Below.refl w.heap.size w)
  have H : (if (l0.length : Int) > 4096 then (spec_MergeEdits.j0 k l0 l1 l2 true) else (if (l1.length : Int) > 4096 then (spec_MergeEdits.j0 k l0 l1 l2 true) else (spec_MergeEdits.j0 k l0 l1 l2 (decide ((l2.length : Int) > 4096))))) = some (r1, r2, r3) := h
  clear h
  have HC4 := Aside0.mk H
  clear H
  go_enter Try.func28, Try.ntmps28
  go_upto_region 1 with (fail)
  go_cut [23] (fun v23 wc => ∃ (kq : Nat) (x23_3 : Bool), v23 = .bool x23_3 ∧ Aside0 (spec_MergeEdits.j0 kq l0 l1 l2 x23_3 = some (r1, r2, r3)) ∧ Aside0 (kq ≤ k) ∧ Aside0 (Below w.heap.size w wc))
  case first =>
    have H := HC4.out
    clear HC4
    by_cases c5 : (l0.length : Int) > 4096
    · rw [if_pos c5] at H
      have c5b0 : decide (4096 < (l0.length : Int)) = true := decide_eq_true c5
      have c5b1 : decide (4096 < l0.length) = true := decide_eq_true (by omega)
      clear c5
      have H' := Aside0.mk H
      clear H
      go_wp2
      go_meet
      case rel => exact ⟨_, (true), vE, H', ⟨by omega⟩, ⟨bW⟩⟩
    · rw [if_neg c5] at H
      have c5b0 : decide (4096 < (l0.length : Int)) = false := decide_eq_false c5
      have c5b1 : decide (4096 < l0.length) = false := decide_eq_false (by omega)
      clear c5
      by_cases c6 : (l1.length : Int) > 4096
      · rw [if_pos c6] at H
        have c6b0 : decide (4096 < (l1.length : Int)) = true := decide_eq_true c6
        have c6b1 : decide (4096 < l1.length) = true := decide_eq_true (by omega)
        clear c6
        have H' := Aside0.mk H
        clear H
        go_wp2
        go_meet
        case rel => exact ⟨_, (true), vE, H', ⟨by omega⟩, ⟨bW⟩⟩
      · rw [if_neg c6] at H
        have c6b0 : decide (4096 < (l1.length : Int)) = false := decide_eq_false c6
        have c6b1 : decide (4096 < l1.length) = false := decide_eq_false (by omega)
        clear c6
        have H' := Aside0.mk H
        clear H
        go_wp2
        go_meet
        case rel => exact ⟨_, (decide ((l2.length : Int) > 4096)), vE, H', ⟨by omega⟩, ⟨bW⟩⟩
  case rest =>
    clear HC4
    obtain ⟨kq, x23_3, rfl, HA, HJ3, HB⟩ := hcut
    cases kq with
    | zero => exact absurd HA.out (by simp [spec_MergeEdits.j0])
    | succ kj3 =>
      have H := HA.out
      clear HA
      simp only [spec_MergeEdits.j0] at H
      by_cases c7 : x23_3 = true
      · subst c7
        have H1 : (some ((([] : List (S55))), (([] : List ByteArray)), 2)) = some (r1, r2, r3) := by rw [if_pos rfl] at H; exact H
        clear H
        have H := H1
        clear H1
        obtain ⟨y723, hy723⟩ : ∃ y_ : List (S55), y_ = (([] : List (S55))) := ⟨_, rfl⟩
        replace H : (some (y723, (([] : List ByteArray)), 2)) = some (r1, r2, r3) := by (rw [hy723]; with_reducible exact H)
        have Ny723 := Aside0.mk hy723
        clear hy723
        obtain ⟨y726, hy726⟩ : ∃ y_ : List ByteArray, y_ = (([] : List ByteArray)) := ⟨_, rfl⟩
        replace H : (some (y723, y726, 2)) = some (r1, r2, r3) := by (rw [hy726]; with_reducible exact H)
        have Ny726 := Aside0.mk hy726
        clear hy726
        simp only [Option.some.injEq, Prod.mk.injEq] at H
        obtain ⟨rfl, rfl, rfl⟩ := H
        go_wp2_with (first | ((with_reducible refine gate_dst (N := 24) rfl ?_); (try (refine gate_guard (by rfl) ?_; dsimp only)); refine Kd.R_lit k55 _ 55 ?hg (N := 24) ?hd (xs := ([] : List (S55))) (inner := []) (ok := fun _ => True) (okp := fun _ => True) ?hr ?hp (fun _ hk => hk) trivial (Below.refl _ _) (Nat.le_refl _) (by simp) ?_; (case hd => rfl); (case hg => rfl); (case hr => (go_simp; done)); (case hp => exact (Reps.none _ _)); intro v724 w8 ho9 hb hg_ hnew_; clear hg_ hnew_; (rw [← Ny723.out] at ho9); have n0_ := Aside0.mk (Kd.R_lower ho9 (below_size (w := w) bW)); have n1_ := Aside0.mk (below_step (w := w) bW hb); clear HB; have HO725 := n0_; have HB := n1_; clear n0_ n1_; clear hb ho9) | ((with_reducible refine gate_dst (N := 25) rfl ?_); (try (refine gate_guard (by rfl) ?_; dsimp only)); refine Kd.R_lit Kd.string _ 9 ?hg (N := 25) ?hd (xs := ([] : List ByteArray)) (inner := []) (ok := fun _ => True) (okp := fun _ => True) ?hr ?hp (fun _ hk => hk) trivial (Below.refl _ _) (Nat.le_refl _) (by simp) ?_; (case hd => rfl); (case hg => rfl); (case hr => (go_simp; done)); (case hp => exact (Reps.none _ _)); intro v727 w10 ho11 hb hg_ hnew_; clear hg_ hnew_; (rw [← Ny726.out] at ho11); have n0_ := Aside0.mk (Kd.R_below (pR HO725) hb); have n1_ := Aside0.mk (Kd.R_lower ho11 (below_size (w := w) bW)); have n2_ := Aside0.mk (below_step (w := w) bW hb); clear HO725; clear HB; have HO725 := n0_; have HO728 := n1_; have HB := n2_; clear n0_ n1_ n2_; clear hb ho11))
        go_ret3
        exact ⟨_, _, by rfl, by exact HO725.out, by exact HO728.out, bW⟩
      · replace c7 := Bool.eq_false_iff.mpr c7
        subst c7
        have H1 : ((spec_l01OK.f l0).bind fun t729 => (if t729 = true then ((spec_l01Edits.f l1).bind fun t730 => (if t730 = true then ((spec_l01Edits.f l2).bind fun t731 => (spec_MergeEdits.j1 kj3 l0 l1 l2 (!t731))) else (spec_MergeEdits.j1 kj3 l0 l1 l2 true))) else (spec_MergeEdits.j1 kj3 l0 l1 l2 true))) = some (r1, r2, r3) := by rw [if_neg (show ¬ (false = true) by decide)] at H; exact H
        clear H
        have H := H1
        clear H1
        have HC12 := Aside0.mk H
        clear H
        go_upto_region 3 with (fail)
        go_cut [38] (fun v38 wc => ∃ (kq : Nat) (x38_11 : Bool), v38 = .bool x38_11 ∧ Aside0 (spec_MergeEdits.j1 kq l0 l1 l2 x38_11 = some (r1, r2, r3)) ∧ Aside0 (kq ≤ kj3) ∧ Aside0 (Below w.heap.size w wc))
        case first =>
          have H := HC12.out
          clear HC12
          replace H := Option.bind_eq_some_iff.mp H
          obtain ⟨t729, A130, H⟩ := H
          replace H : (if t729 = true then ((spec_l01Edits.f l1).bind fun t730 => (if t730 = true then ((spec_l01Edits.f l2).bind fun t731 => (spec_MergeEdits.j1 kj3 l0 l1 l2 (!t731))) else (spec_MergeEdits.j1 kj3 l0 l1 l2 true))) else (spec_MergeEdits.j1 kj3 l0 l1 l2 true)) = some (r1, r2, r3) := H
          have A13 := Aside0.mk A130
          clear A130
          by_cases c14 : t729 = true
          · subst c14
            have H1 : ((spec_l01Edits.f l1).bind fun t730 => (if t730 = true then ((spec_l01Edits.f l2).bind fun t731 => (spec_MergeEdits.j1 kj3 l0 l1 l2 (!t731))) else (spec_MergeEdits.j1 kj3 l0 l1 l2 true))) = some (r1, r2, r3) := by rw [if_pos rfl] at H; exact H
            clear H
            have H := H1
            clear H1
            replace H := Option.bind_eq_some_iff.mp H
            obtain ⟨t730, A150, H⟩ := H
            replace H : (if t730 = true then ((spec_l01Edits.f l2).bind fun t731 => (spec_MergeEdits.j1 kj3 l0 l1 l2 (!t731))) else (spec_MergeEdits.j1 kj3 l0 l1 l2 true)) = some (r1, r2, r3) := H
            have A15 := Aside0.mk A150
            clear A150
            by_cases c16 : t730 = true
            · subst c16
              have H1 : ((spec_l01Edits.f l2).bind fun t731 => (spec_MergeEdits.j1 kj3 l0 l1 l2 (!t731))) = some (r1, r2, r3) := by rw [if_pos rfl] at H; exact H
              clear H
              have H := H1
              clear H1
              replace H := Option.bind_eq_some_iff.mp H
              obtain ⟨t731, A170, H⟩ := H
              replace H : (spec_MergeEdits.j1 kj3 l0 l1 l2 (!t731)) = some (r1, r2, r3) := H
              have A17 := Aside0.mk A170
              clear A170
              have H' := Aside0.mk H
              clear H
              go_wp2_with (first | ((with_reducible refine gate_callee (f := 32) rfl ?_); refine goesL_ (some 27) rfl rfl Try.func32 (by kernel_rfl) rfl #[.slice A0 l0.length c0] rfl gA ?_; (with_reducible refine (spec_l01OK.calls _ _ l0 true _ ?side1 ?side2 A13.out).mono ?_); (case side1 => exact cB HR0); (case side2 => exact HC0.out); rintro e w' ⟨rfl, ⟨nd, rfl⟩⟩; refine ⟨_, rfl, ?_⟩) | (go_at_call 46; (with_reducible refine (spec_l01Edits.calls _ _ l1 true _ ?side1 ?side2 A15.out).mono ?_); (case side1 => exact cB HR1); (case side2 => exact HC1.out); rintro e w18 ⟨rfl, hb⟩; have n0_ := Aside0.mk (below_step (w := w) bW hb); clear HB; have HB := n0_; clear n0_; (try clear hb)) | (go_at_call 46; (with_reducible refine (spec_l01Edits.calls _ _ l2 t731 _ ?side1 ?side2 A17.out).mono ?_); (case side1 => exact cB HR2); (case side2 => exact HC2.out); rintro e w19 ⟨rfl, hb⟩; have n0_ := Aside0.mk (below_step (w := w) bW hb); clear HB; have HB := n0_; clear n0_; (try clear hb)))
              go_meet
              case rel => exact ⟨_, (!t731), vE, H', ⟨by have := HJ3.out; omega⟩, ⟨bW⟩⟩
            · replace c16 := Bool.eq_false_iff.mpr c16
              subst c16
              have H1 : (spec_MergeEdits.j1 kj3 l0 l1 l2 true) = some (r1, r2, r3) := by rw [if_neg (show ¬ (false = true) by decide)] at H; exact H
              clear H
              have H := H1
              clear H1
              have H' := Aside0.mk H
              clear H
              go_wp2_with (first | ((with_reducible refine gate_callee (f := 32) rfl ?_); refine goesL_ (some 27) rfl rfl Try.func32 (by kernel_rfl) rfl #[.slice A0 l0.length c0] rfl gA ?_; (with_reducible refine (spec_l01OK.calls _ _ l0 true _ ?side1 ?side2 A13.out).mono ?_); (case side1 => exact cB HR0); (case side2 => exact HC0.out); rintro e w' ⟨rfl, ⟨nd, rfl⟩⟩; refine ⟨_, rfl, ?_⟩) | (go_at_call 46; (with_reducible refine (spec_l01Edits.calls _ _ l1 false _ ?side1 ?side2 A15.out).mono ?_); (case side1 => exact cB HR1); (case side2 => exact HC1.out); rintro e w20 ⟨rfl, hb⟩; have n0_ := Aside0.mk (below_step (w := w) bW hb); clear HB; have HB := n0_; clear n0_; (try clear hb)))
              go_meet
              case rel => exact ⟨_, (true), vE, H', ⟨by have := HJ3.out; omega⟩, ⟨bW⟩⟩
          · replace c14 := Bool.eq_false_iff.mpr c14
            subst c14
            have H1 : (spec_MergeEdits.j1 kj3 l0 l1 l2 true) = some (r1, r2, r3) := by rw [if_neg (show ¬ (false = true) by decide)] at H; exact H
            clear H
            have H := H1
            clear H1
            have H' := Aside0.mk H
            clear H
            go_wp2_with (((with_reducible refine gate_callee (f := 32) rfl ?_); refine goesL_ (some 27) rfl rfl Try.func32 (by kernel_rfl) rfl #[.slice A0 l0.length c0] rfl gA ?_; (with_reducible refine (spec_l01OK.calls _ _ l0 false _ ?side1 ?side2 A13.out).mono ?_); (case side1 => exact cB HR0); (case side2 => exact HC0.out); rintro e w' ⟨rfl, ⟨nd, rfl⟩⟩; refine ⟨_, rfl, ?_⟩))
            go_meet
            case rel => exact ⟨_, (true), vE, H', ⟨by have := HJ3.out; omega⟩, ⟨bW⟩⟩
        case rest =>
          clear HC12
          obtain ⟨kq, x38_11, rfl, HA, HJ11, HB⟩ := hcut
          cases kq with
          | zero => exact absurd HA.out (by simp [spec_MergeEdits.j1])
          | succ kj11 =>
            have H := HA.out
            clear HA
            simp only [spec_MergeEdits.j1] at H
            by_cases c21 : x38_11 = true
            · subst c21
              have H1 : (some ((([] : List (S55))), (([] : List ByteArray)), 1)) = some (r1, r2, r3) := by rw [if_pos rfl] at H; exact H
              clear H
              have H := H1
              clear H1
              obtain ⟨y732, hy732⟩ : ∃ y_ : List (S55), y_ = (([] : List (S55))) := ⟨_, rfl⟩
              replace H : (some (y732, (([] : List ByteArray)), 1)) = some (r1, r2, r3) := by (rw [hy732]; with_reducible exact H)
              have Ny732 := Aside0.mk hy732
              clear hy732
              obtain ⟨y735, hy735⟩ : ∃ y_ : List ByteArray, y_ = (([] : List ByteArray)) := ⟨_, rfl⟩
              replace H : (some (y732, y735, 1)) = some (r1, r2, r3) := by (rw [hy735]; with_reducible exact H)
              have Ny735 := Aside0.mk hy735
              clear hy735
              simp only [Option.some.injEq, Prod.mk.injEq] at H
              obtain ⟨rfl, rfl, rfl⟩ := H
              go_wp2_with (first | ((with_reducible refine gate_dst (N := 39) rfl ?_); (try (refine gate_guard (by rfl) ?_; dsimp only)); refine Kd.R_lit k55 _ 55 ?hg (N := 39) ?hd (xs := ([] : List (S55))) (inner := []) (ok := fun _ => True) (okp := fun _ => True) ?hr ?hp (fun _ hk => hk) trivial (Below.refl _ _) (Nat.le_refl _) (by simp) ?_; (case hd => rfl); (case hg => rfl); (case hr => (go_simp; done)); (case hp => exact (Reps.none _ _)); intro v733 w22 ho23 hb hg_ hnew_; clear hg_ hnew_; (rw [← Ny732.out] at ho23); have n0_ := Aside0.mk (Kd.R_lower ho23 (below_size (w := w) bW)); have n1_ := Aside0.mk (below_step (w := w) bW hb); clear HB; have HO734 := n0_; have HB := n1_; clear n0_ n1_; clear hb ho23) | ((with_reducible refine gate_dst (N := 40) rfl ?_); (try (refine gate_guard (by rfl) ?_; dsimp only)); refine Kd.R_lit Kd.string _ 9 ?hg (N := 40) ?hd (xs := ([] : List ByteArray)) (inner := []) (ok := fun _ => True) (okp := fun _ => True) ?hr ?hp (fun _ hk => hk) trivial (Below.refl _ _) (Nat.le_refl _) (by simp) ?_; (case hd => rfl); (case hg => rfl); (case hr => (go_simp; done)); (case hp => exact (Reps.none _ _)); intro v736 w24 ho25 hb hg_ hnew_; clear hg_ hnew_; (rw [← Ny735.out] at ho25); have n0_ := Aside0.mk (Kd.R_below (pR HO734) hb); have n1_ := Aside0.mk (Kd.R_lower ho25 (below_size (w := w) bW)); have n2_ := Aside0.mk (below_step (w := w) bW hb); clear HO734; clear HB; have HO734 := n0_; have HO737 := n1_; have HB := n2_; clear n0_ n1_ n2_; clear hb ho25))
              go_ret3
              exact ⟨_, _, by rfl, by exact HO734.out, by exact HO737.out, bW⟩
            · replace c21 := Bool.eq_false_iff.mpr c21
              subst c21
              have H1 : ((spec_l01Apply.f kj11 l0 l1).bind fun t738 => ((spec_l01Apply.f kj11 l0 l2).bind fun t741 => ((spec_l02Merge.f kj11 l0 t738 t741).bind fun bt744 => ((spec_l02Told.f bt744.1 bt744.2).bind fun bt750 => (some (bt750.1, bt750.2.1, bt750.2.2)))))) = some (r1, r2, r3) := by rw [if_neg (show ¬ (false = true) by decide)] at H; exact H
              clear H
              have H := H1
              clear H1
              replace H := Option.bind_eq_some_iff.mp H
              obtain ⟨t738, A260, H⟩ := H
              replace H : ((spec_l01Apply.f kj11 l0 l2).bind fun t741 => ((spec_l02Merge.f kj11 l0 t738 t741).bind fun bt744 => ((spec_l02Told.f bt744.1 bt744.2).bind fun bt750 => (some (bt750.1, bt750.2.1, bt750.2.2))))) = some (r1, r2, r3) := H
              have A26 := Aside0.mk A260
              clear A260
              replace H := Option.bind_eq_some_iff.mp H
              obtain ⟨t741, A270, H⟩ := H
              replace H : ((spec_l02Merge.f kj11 l0 t738 t741).bind fun bt744 => ((spec_l02Told.f bt744.1 bt744.2).bind fun bt750 => (some (bt750.1, bt750.2.1, bt750.2.2)))) = some (r1, r2, r3) := H
              have A27 := Aside0.mk A270
              clear A270
              replace H := Option.bind_eq_some_iff.mp H
              obtain ⟨⟨t744, t745⟩, A280, H⟩ := H
              replace H : ((spec_l02Told.f t744 t745).bind fun bt750 => (some (bt750.1, bt750.2.1, bt750.2.2))) = some (r1, r2, r3) := H
              have A28 := Aside0.mk A280
              clear A280
              replace H := Option.bind_eq_some_iff.mp H
              obtain ⟨⟨t750, t753, t756⟩, A290, H⟩ := H
              replace H : (some (t750, t753, t756)) = some (r1, r2, r3) := H
              have A29 := Aside0.mk A290
              clear A290
              simp only [Option.some.injEq, Prod.mk.injEq] at H
              obtain ⟨rfl, rfl, rfl⟩ := H
              go_wp2_with (first | ((with_reducible refine gate_callee (f := 47) rfl ?_); refine goesL_ (some 45) rfl rfl Try.func47 (by kernel_rfl) rfl #[.slice A0 l0.length c0, .slice A1 l1.length c1] rfl gA ?_; (with_reducible refine (spec_l01Apply.calls kj11 _ _ l0 _ _ l1 t738 _ ?side1 ?side2 ?side3 ?side4 A26.out).mono ?_); (case side1 => exact cB HR0); (case side2 => exact HC0.out); (case side3 => exact cB HR1); (case side4 => exact HC1.out); rintro e w30 ⟨v739, rfl, ho0, hb⟩; refine ⟨_, rfl, ?_⟩; have n0_ := Aside0.mk (Kd.R_lower ho0 (below_size (w := w) bW)); have n1_ := Aside0.mk (below_step (w := w) bW hb); clear HB; have HO740 := n0_; have HB := n1_; clear n0_ n1_; (try clear hb); (try clear ho0)) | ((with_reducible refine gate_callee (f := 47) rfl ?_); refine goesL_ (some 48) rfl rfl Try.func47 (by kernel_rfl) rfl #[.slice A0 l0.length c0, .slice A2 l2.length c2] rfl gA ?_; (with_reducible refine (spec_l01Apply.calls kj11 _ _ l0 _ _ l2 t741 _ ?side1 ?side2 ?side3 ?side4 A27.out).mono ?_); (case side1 => exact cB HR0); (case side2 => exact HC0.out); (case side3 => exact cB HR2); (case side4 => exact HC2.out); rintro e w31 ⟨v742, rfl, ho0, hb⟩; refine ⟨_, rfl, ?_⟩; have n0_ := Aside0.mk (Kd.R_elder' (pR HO740) (Kd.R_base ho0) hb); have n1_ := Aside0.mk (Kd.R_lower (Kd.R_new' ho0 (Kd.R_lt (pR HO740))) (below_size (w := w) bW)); have n2_ := Aside0.mk (below_step (w := w) bW hb); clear HO740; clear HB; have HO740 := n0_; have HO743 := n1_; have HB := n2_; clear n0_ n1_ n2_; (try clear hb); (try clear ho0); obtain ⟨Ao32, co32, eo32⟩ := Kd.R_slice HO740.out; subst eo32; obtain ⟨Ao33, co33, eo33⟩ := Kd.R_slice HO743.out; subst eo33) | ((with_reducible refine gate_callee (f := 42) rfl ?_); refine goesL_ (some 49) rfl rfl Try.func42 (by kernel_rfl) rfl #[.slice A0 l0.length c0, .slice Ao32 t738.length co32, .slice Ao33 t741.length co33] rfl gA ?_; (with_reducible refine (spec_l02Merge.calls kj11 _ _ l0 _ _ t738 _ _ t741 t744 t745 _ ?side1 ?side2 ?side3 ?side4 ?side5 ?side6 A28.out).mono ?_); (case side1 => exact cB HR0); (case side2 => exact HC0.out); (case side3 => repeat (exact (Kd.R_reads' HO740.out).2.2)); (case side4 => exact (Kd.R_reads' HO740.out).2.1); (case side5 => repeat (exact (Kd.R_reads' HO743.out).2.2)); (case side6 => exact (Kd.R_reads' HO743.out).2.1); rintro e w34 ⟨v746, v748, rfl, ho0, ho1, hb⟩; refine ⟨_, rfl, ?_⟩; have n0_ := Aside0.mk (Kd.R_elder' (pR HO740) (Kd.R_base ho0) hb); have n1_ := Aside0.mk (Kd.R_elder' (pR HO743) (Kd.R_base ho0) hb); have n2_ := Aside0.mk (Kd.R_lower (Kd.R_new' (Kd.R_new' ho0 (Kd.R_lt (pR HO740))) (Kd.R_lt (pR HO743))) (below_size (w := w) bW)); have n3_ := Aside0.mk (Kd.R_lower ho1 (below_size (w := w) bW)); have n4_ := Aside0.mk (below_step (w := w) bW hb); clear HO740; clear HO743; clear HB; have HO740 := n0_; have HO743 := n1_; have HO747 := n2_; have HO749 := n3_; have HB := n4_; clear n0_ n1_ n2_ n3_ n4_; (try clear hb); (try clear ho0); (try clear ho1); obtain ⟨Ao35, co35, eo35⟩ := Kd.R_slice HO747.out; subst eo35; obtain ⟨Ao36, co36, eo36⟩ := Kd.R_slice HO749.out; subst eo36) | ((with_reducible refine gate_callee (f := 43) rfl ?_); refine goesL_ (some 54) rfl rfl Try.func43 (by kernel_rfl) rfl #[.slice Ao35 t744.length co35, .slice Ao36 t745.length co36] rfl gA ?_; (with_reducible refine (spec_l02Told.calls (fun k_ => some k_ = (.slice Ao35 t744.length co35 : Value).ownBlock) (.slice Ao35 t744.length co35) t744 (fun k_ => some k_ = (.slice Ao36 t745.length co36 : Value).ownBlock) (.slice Ao36 t745.length co36) t745 t750 t753 t756 w _ ?side1 ?side2 ?side3 A29.out).mono ?_); (case side1 => repeat ((with_reducible exact HB.out))); (case side2 => exact Kd.R_tight rfl HO747.out); (case side3 => exact Kd.R_tight rfl HO749.out); rintro e w37 ⟨v751, v754, rfl, ho0, ho1, hb, hkp⟩; refine ⟨_, rfl, ?_⟩; have n0_ := Aside0.mk (Kd.R_mono (ok' := fun k_ => some k_ ≠ (.slice Ao33 t741.length co33 : Value).ownBlock ∧ some k_ ≠ (v751 : Value).ownBlock) (Kd.R_keptB ((Kd.R_apart' HO740.out (Kd.R_typed HO749.out) (by decide))) hkp (fun k_ hk_ hs_ => Or.elim hs_ (fun e_ => (hk_.1.2) e_) (fun e_ => (hk_.2) e_))) (fun k_ hk_ => ⟨hk_.1.1.1.2, fun e_ => Or.elim (ho0.1 k_ e_.symm) (fun hs_ => hk_.2.1 hs_) (fun hn_ => Nat.not_le.2 hk_.2.2 hn_)⟩)); have n1_ := Aside0.mk (Kd.R_mono (ok' := fun k_ => some k_ ≠ (.slice Ao32 t738.length co32 : Value).ownBlock ∧ some k_ ≠ (v751 : Value).ownBlock) (Kd.R_keptB ((Kd.R_apart' HO743.out (Kd.R_typed HO749.out) (by decide))) hkp (fun k_ hk_ hs_ => Or.elim hs_ (fun e_ => (hk_.1.2) e_) (fun e_ => (hk_.2) e_))) (fun k_ hk_ => ⟨hk_.1.1.1.2, fun e_ => Or.elim (ho0.1 k_ e_.symm) (fun hs_ => hk_.2.1 hs_) (fun hn_ => Nat.not_le.2 hk_.2.2 hn_)⟩)); have n2_ := Aside0.mk (Kd.R_mono (ok' := fun k_ => some k_ ≠ (.slice Ao32 t738.length co32 : Value).ownBlock ∧ some k_ ≠ (.slice Ao33 t741.length co33 : Value).ownBlock) ho0 (fun k_ hk_ => ⟨Or.elim hk_ (fun hs_ => Or.elim hs_ (fun hs_ => fun e_ => ((((Kd.R_apart' HO740.out (Kd.R_typed HO749.out) (by decide))).1 k_ e_.symm).1.2) hs_) (fun hs_ => fun e_ => ((((Kd.R_apart' HO740.out (Kd.R_typed HO749.out) (by decide))).1 k_ e_.symm).2) hs_)) (fun hn_ => (Kd.fresh' (Kd.R_lt (pR HO740)) k_ hn_)), Or.elim hk_ (fun hs_ => Or.elim hs_ (fun hs_ => fun e_ => ((((Kd.R_apart' HO743.out (Kd.R_typed HO749.out) (by decide))).1 k_ e_.symm).1.2) hs_) (fun hs_ => fun e_ => ((((Kd.R_apart' HO743.out (Kd.R_typed HO749.out) (by decide))).1 k_ e_.symm).2) hs_)) (fun hn_ => (Kd.fresh' (Kd.R_lt (pR HO743)) k_ hn_))⟩)); have n3_ := Aside0.mk (Kd.R_mono (ok' := fun k_ => True) ho1 (fun k_ hk_ => trivial)); have n4_ := Aside0.mk (hb); clear HO740; clear HO743; clear HB; clear HO747; clear HO749; have HO740 := n0_; have HO743 := n1_; have HO752 := n2_; have HO755 := n3_; have HB := n4_; clear n0_ n1_ n2_ n3_ n4_; (try clear hb); (try clear hkp); (try clear ho0); (try clear ho1)))
              go_ret3
              exact ⟨_, _, by rfl, by exact Kd.R_mono HO752.out (fun _ hk => trivial), by exact HO755.out, bW⟩
end Go.Proofs.Ytblejbgkcgajgaa.Q
end

section
namespace Go.Proofs.Ytblejbgkcgajgaa.Q
open Go.RowKit Go.Proofs.YtblejbgkcgajgaaW.PrintWords Go.Proofs.YtblejbgkcgajgaaW.PrintLast Go.Proofs.YtblejbgkcgajgaaW.PrintMore
attribute [local go_sem] max2_int min2_int max_two min_two max_three min_three max_four min_four   -- for this text's walks alone
set_option linter.unusedVariables false
set_option linter.unusedSimpArgs false
attribute [local go_sem] bin_leq bin_gtr bin_geq
def laws_toEdit.f (a0_0 : ByteArray) (a0_1 : Int) (a0_2 : Bool) : Option (ByteArray × Int × Bool) := some (a0_0, a0_1, a0_2)
set_option maxHeartbeats 8000000 in
set_option maxRecDepth 100000 in
theorem laws_toEdit.calls (a0_0 : ByteArray) (a0_1 : Int) (a0_2 : Bool) (r1 : ByteArray) (r2 : Int) (r3 : Bool) (w : World) (h : laws_toEdit.f a0_0 a0_1 a0_2 = some (r1, r2, r3)) :
    Calls Try.prog 48 #[.agg #[.string a0_0, .int .i64 a0_1, .bool a0_2]] w fun e w' => e = .returned (.agg #[.string r1, .int .i64 r2, .bool r3]) ∧ Below w.heap.size w w' := by
  have hu67 := Try.underlying67
  have hu62 := Try.underlying62
  have HB := Aside0.mk (Below.refl w.heap.size w)
  have H : (some (a0_0, a0_1, a0_2)) = some (r1, r2, r3) := h
  clear h
  simp only [Option.some.injEq, Prod.mk.injEq] at H
  obtain ⟨rfl, rfl, rfl⟩ := H
  go_enter Try.func48, Try.ntmps48
  go_wp2_with (first | ((with_reducible refine gate_dst (N := 1) rfl ?_); refine bE (N := 1) (cs := #[.string a0_0, .int .i64 a0_1, .bool a0_2]) (t := 67) ?_; intro gb757 hg w2 hbox hb; have n0_ := Aside0.mk (below_step (w := w) bW hb); have n1_ := Aside0.mk (hbox); have n2_ := Aside0.mk (gS (w := w) hg); have n3_ := n2_; clear HB; have HB := n0_; have BK757 := n1_; have GW757 := n2_; have GE757 := n3_; clear n0_ n1_ n2_ n3_; clear hb hbox hg) | ((with_reducible refine gate_dst (N := 2) rfl ?_); refine bE (N := 2) (cs := #[.string (⟨#[]⟩ : ByteArray), .int .i64 0, .bool false]) (t := 62) ?_; intro gb758 hg w3 hbox hb; have n0_ := Aside0.mk (kb BK757 hb); have n1_ := Aside0.mk (below_step (w := w) bW hb); have n2_ := Aside0.mk (hbox); have n3_ := Aside0.mk (gS (w := w) hg); have n4_ := n3_; have n5_ := Aside0.mk (nL BK757 hg); have n6_ := Aside0.mk (nG BK757 hg); clear BK757; clear HB; have BK757 := n0_; have HB := n1_; have BK758 := n2_; have GW758 := n3_; have GE758 := n4_; have NB757_758 := n5_; have NB758_757 := n6_; clear n0_ n1_ n2_ n3_ n4_ n5_ n6_; clear hb hbox hg) | ((with_reducible refine gate_dst (N := 3) rfl ?_); refine bE (N := 3) (cs := #[.string (⟨#[]⟩ : ByteArray), .int .i64 0, .bool false]) (t := 62) ?_; intro gb759 hg w4 hbox hb; have n0_ := Aside0.mk (kb BK757 hb); have n1_ := Aside0.mk (kb BK758 hb); have n2_ := Aside0.mk (below_step (w := w) bW hb); have n3_ := Aside0.mk (hbox); have n4_ := Aside0.mk (gS (w := w) hg); have n5_ := n4_; have n6_ := Aside0.mk (nL BK757 hg); have n7_ := Aside0.mk (nG BK757 hg); have n8_ := Aside0.mk (nL BK758 hg); have n9_ := Aside0.mk (nG BK758 hg); clear BK757; clear BK758; clear HB; have BK757 := n0_; have BK758 := n1_; have HB := n2_; have BK759 := n3_; have GW759 := n4_; have GE759 := n5_; have NB757_759 := n6_; have NB759_757 := n7_; have NB758_759 := n8_; have NB759_758 := n9_; clear n0_ n1_ n2_ n3_ n4_ n5_ n6_ n7_ n8_ n9_; clear hb hbox hg; have hnb5 := NB757_758.out; have hnc5 := NB758_757.out; have hnb6 := NB757_759.out; have hnc6 := NB759_757.out; obtain ⟨hcz7_0, hcz7_1, hcz7_2⟩ := cz3 BK757; obtain ⟨hfz7_0, hfz7_1, hfz7_2⟩ := fz3 BK757; have hnb8 := NB759_758.out; have hnc8 := NB758_759.out; obtain ⟨hcz9_0, hcz9_1, hcz9_2⟩ := cz3 BK759; obtain ⟨hfz9_0, hfz9_1, hfz9_2⟩ := fz3 BK759; obtain ⟨hcz10_0, hcz10_1, hcz10_2⟩ := cz3 BK758; obtain ⟨hfz10_0, hfz10_1, hfz10_2⟩ := fz3 BK758))
  refine bodyPost_ret (results_cell_row rfl _ _ gb758 62 #[.string a0_0, .int .i64 a0_1, .bool a0_2] (0, 0) _ rfl (by (with_reducible repeat (first | refine blk_drewN ?_ _ | refine blk_drew ?_ | refine blk_alloc ?_ _)); refine blk_put (cs := #[.string a0_0, .int .i64 a0_1, .bool false]) ?_ 2 _ rfl; (with_reducible repeat (first | refine blk_drewN ?_ _ | refine blk_drew ?_ | refine blk_alloc ?_ _)); refine blk_put (cs := #[.string a0_0, .int .i64 0, .bool false]) ?_ 1 _ rfl; (with_reducible repeat (first | refine blk_drewN ?_ _ | refine blk_drew ?_ | refine blk_alloc ?_ _)); refine blk_put (cs := #[.string (⟨#[]⟩ : ByteArray), .int .i64 0, .bool false]) ?_ 0 _ rfl; (with_reducible repeat (first | refine blk_drewN ?_ _ | refine blk_drew ?_ | refine blk_alloc ?_ _)); refine blk_far ?_ NB758_759.out _; (with_reducible repeat (first | refine blk_drewN ?_ _ | refine blk_drew ?_ | refine blk_alloc ?_ _)); refine blk_far ?_ NB758_759.out _; (with_reducible repeat (first | refine blk_drewN ?_ _ | refine blk_drew ?_ | refine blk_alloc ?_ _)); refine blk_far ?_ NB758_759.out _; (with_reducible repeat (first | refine blk_drewN ?_ _ | refine blk_drew ?_ | refine blk_alloc ?_ _)); exact BK758.out) Try.underlying62 rfl (by kernel_rfl)) rfl ?_
  exact ⟨rE, bW⟩
end Go.Proofs.Ytblejbgkcgajgaa.Q
end

section
namespace Go.Proofs.Ytblejbgkcgajgaa.Q
open Go.RowKit Go.Proofs.YtblejbgkcgajgaaW.PrintWords Go.Proofs.YtblejbgkcgajgaaW.PrintLast Go.Proofs.YtblejbgkcgajgaaW.PrintMore
attribute [local go_sem] max2_int min2_int max_two min_two max_three min_three max_four min_four   -- for this text's walks alone
set_option linter.unusedVariables false
set_option linter.unusedSimpArgs false
attribute [local go_sem] bin_leq bin_gtr bin_geq
def laws_toEditS.l0 : Nat → List (S67) → List (S62) → Int → Option ((List (S62)))
  | 0, _, _, _ => none
  | k + 1, x0, x3, x4 => if x4 < (x0.length : Int) then (if 0 ≤ x4 then ((laws_toEdit.f ((rd_T67 x0 x4).f0) ((rd_T67 x0 x4).f1) ((rd_T67 x0 x4).f2)).bind fun bt764 => (if x4 < (x3.length : Int) then (laws_toEditS.l0 k x0 (x3.set (x4 : Int).toNat (⟨bt764.1, bt764.2.1, bt764.2.2⟩ : S62)) (wrap64 (x4 + 1))) else (none))) else (none)) else (some x3)
def laws_toEditS.f (k : Nat) (l0 : List (S67)) : Option ((List (S62))) := if 0 ≤ (l0.length : Int) then (if ((l0.length : Int) : Int).toNat ≤ 8796093022208 then (laws_toEditS.l0 k l0 (List.replicate ((l0.length : Int) : Int).toNat z62) 0) else (none)) else (none)
set_option maxHeartbeats 8000000 in
set_option maxRecDepth 100000 in
theorem laws_toEditS.calls (k : Nat) (A0 : Option Addr) (c0 : Nat) (l0 : List (S67)) (r : List (S62)) (w : World) (hr0 : Kd.C k67 w A0 l0.length l0) (hc0 : l0.length ≤ c0) (h : laws_toEditS.f k l0 = some r) :
    Calls Try.prog 29 #[.slice A0 l0.length c0] w fun e w' => ∃ v0_ : Value, e = .returned (v0_) ∧ Kd.R k62 62 w' w.heap.size (fun _ => True) v0_ r ∧ Below w.heap.size w w' := by
  have hu67 := Try.underlying67
  have hu62 := Try.underlying62
  have HR0 := Aside0.mk hr0
  have HC0 := Aside0.mk hc0
  clear hr0 hc0
  have HB := Aside0.mk (Below.refl w.heap.size w)
  have H : (if 0 ≤ (l0.length : Int) then (if ((l0.length : Int) : Int).toNat ≤ 8796093022208 then (laws_toEditS.l0 k l0 (List.replicate ((l0.length : Int) : Int).toNat z62) 0) else (none)) else (none)) = some r := h
  clear h
  by_cases c2 : 0 ≤ (l0.length : Int)
  · rw [if_pos c2] at H
    have c2b0 := eq_true c2
    have c2b1 : decide (0 ≤ (l0.length : Int)) = true := decide_eq_true c2
    clear c2
    by_cases c3 : ((l0.length : Int) : Int).toNat ≤ 8796093022208
    · rw [if_pos c3] at H
      have c3b0 := eq_true c3
      have c3b1 : decide (((l0.length : Int) : Int).toNat ≤ 8796093022208) = true := decide_eq_true c3
      clear c3
      obtain ⟨y760, hy760⟩ : ∃ y_ : List (S62), y_ = (List.replicate ((l0.length : Int) : Int).toNat z62) := ⟨_, rfl⟩
      replace H : (laws_toEditS.l0 k l0 y760 0) = some r := by (rw [hy760]; with_reducible exact H)
      have Ny760 := Aside0.mk hy760
      clear hy760
      have H' := Aside0.mk H
      clear H
      go_enter Try.func29, Try.ntmps29
      go_wp2_with (((with_reducible refine gate_dst (N := 7) rfl ?_); refine Kd.R_make k62 _ 62 rfl (N := 7) rfl 34 _ _ rfl (l0.length : Int) rfl rfl Try.underlying34 (.agg #[(.string ⟨#[]⟩), (.int .i64 0), (.bool false)]) 32 info62 rfl (by decide) (by omega) z62 (ok := fun _ => True) (okp := fun _ => True) (k62_mkM _ _ _ z62 ) (fun _ hk => hk) trivial (odt) (Nat.le_trans (Nat.mul_le_mul_right _ (odt : (l0.length : Int).toNat ≤ 8796093022208)) (by omega)) (Below.refl _ _) (Nat.le_refl _) ?_; intro v761 w4 ho5 hb hg_ hnew_; clear hg_ hnew_; (rw [← Ny760.out] at ho5); have n0_ := Aside0.mk (Kd.R_lower ho5 (below_size (w := w) bW)); have n1_ := Aside0.mk (below_step (w := w) bW hb); clear HB; have HO762 := n0_; have HB := n1_; clear n0_ n1_; clear hb ho5))
      go_loopg [4] k (fun kq v4 w' => ∃ (x3_1 : List (S62)) (x4_1 : Int), v4 = .int .i64 x4_1 ∧ Aside0 (laws_toEditS.l0 kq l0 x3_1 x4_1 = some r) ∧ Aside0 (kq ≤ k) ∧ Aside0 (Kd.R k62 62 w' w.heap.size (fun _ => True) v761 x3_1) ∧ Aside0 (Below w.heap.size w w'))
      case atStart => exact ⟨(y760), (0), vE, H', ⟨Nat.le_refl _⟩, ⟨by exact HO762.out⟩, ⟨bW⟩⟩
      case round =>
        clear H'
        try clear c2b0
        try clear c2b1
        try clear c3b0
        try clear c3b1
        obtain ⟨x3_1, x4_1, rfl, HA, HK1, HO_3, HB⟩ := hrel
        cases gk with
        | zero => exact absurd HA.out (by simp [laws_toEditS.l0])
        | succ k1 =>
          have H := HA.out
          clear HA
          simp only [laws_toEditS.l0] at H
          by_cases c6 : x4_1 < (l0.length : Int)
          · rw [if_pos c6] at H
            have c6b0 : decide (x4_1 < (l0.length : Int)) = true := decide_eq_true c6
            clear c6
            by_cases c7 : 0 ≤ x4_1
            · rw [if_pos c7] at H
              have c7b0 : decide (0 ≤ x4_1) = true := decide_eq_true c7
              clear c7
              replace H := Option.bind_eq_some_iff.mp H
              obtain ⟨⟨t764, t765, t766⟩, A80, H⟩ := H
              replace H : (if x4_1 < (x3_1.length : Int) then (laws_toEditS.l0 k1 l0 (x3_1.set (x4_1 : Int).toNat (⟨t764, t765, t766⟩ : S62)) (wrap64 (x4_1 + 1))) else (none)) = some r := H
              have A8 := Aside0.mk A80
              clear A80
              by_cases c9 : x4_1 < (x3_1.length : Int)
              · rw [if_pos c9] at H
                have c9b0 : decide (x4_1 < (x3_1.length : Int)) = true := decide_eq_true c9
                clear c9
                obtain ⟨y767, hy767⟩ : ∃ y_ : List (S62), y_ = (x3_1.set (x4_1 : Int).toNat (⟨t764, t765, t766⟩ : S62)) := ⟨_, rfl⟩
                replace H : (laws_toEditS.l0 k1 l0 y767 (wrap64 (x4_1 + 1))) = some r := by (rw [hy767]; with_reducible exact H)
                have Ny767 := Aside0.mk hy767
                clear hy767
                have H' := Aside0.mk H
                clear H
                have p763 : 0 ≤ (x4_1 : Int) := odt
                have q763 : x4_1 < (l0.length : Int) := odt
                obtain ⟨ad763, e763, hx763_0, hx763_1, hx763_2⟩ := at_T67 HR0.out x4_1 p763 q763
                cases e763
                replace hx763_0 := (HB.out.cell (World.block_lt_of_cell? w _ hx763_0)).trans hx763_0
                replace hx763_1 := (HB.out.cell (World.block_lt_of_cell? w _ hx763_1)).trans hx763_1
                replace hx763_2 := (HB.out.cell (World.block_lt_of_cell? w _ hx763_2)).trans hx763_2
                replace p763 := eq_true p763
                replace q763 := eq_true q763
                go_wp2_with (first | ((with_reducible refine gate_callee (f := 48) rfl ?_); refine goesL_ (some 20) rfl rfl Try.func48 (by kernel_rfl) rfl #[.agg #[.string ((rd_T67 l0 x4_1).f0), .int .i64 ((rd_T67 l0 x4_1).f1), .bool ((rd_T67 l0 x4_1).f2)]] rfl gA ?_; (with_reducible refine (laws_toEdit.calls ((rd_T67 l0 x4_1).f0) ((rd_T67 l0 x4_1).f1) ((rd_T67 l0 x4_1).f2) t764 t765 t766 _ A8.out).mono ?_); rintro e w11 ⟨rfl, hb⟩; refine ⟨_, rfl, ?_⟩; have n0_ := Aside0.mk (Kd.R_below (pR HO_3) hb); have n1_ := Aside0.mk (below_step (w := w) bW hb); clear HO_3; clear HB; have HO_3 := n0_; have HB := n1_; clear n0_ n1_; (try clear hb); have p10 : 0 ≤ (x4_1 : Int) := odt; have q10 : (x4_1 : Int) < ((x3_1.length : Int) : Int) := odt; obtain ⟨go10, co10, eo10, gb10, gl10, cl10, HG10⟩ := Kd.R_form HO_3.out (by omega); (cases eo10); have GB10 := Aside0.mk gb10; have GG10 := Aside0.mk HG10; clear gb10 gl10 HG10; obtain ⟨ce10, hcl10, hM10, hcc10, hfr10⟩ := Kd.R_elem HO_3.out z62 (x4_1 : Int) p10 q10; obtain rfl := k62_openM hM10; have hx10_0 : w11.cell? ⟨go10, (x4_1 : Int).toNat * 3, none⟩ = some (.string ((rd_T62 x3_1 x4_1).f0)) := hcc10 0 _ rfl; have hx10_1 : w11.cell? ⟨go10, (x4_1 : Int).toNat * 3 + 1, none⟩ = some (.int .i64 ((rd_T62 x3_1 x4_1).f1)) := hcc10 1 _ rfl; have hx10_2 : w11.cell? ⟨go10, (x4_1 : Int).toNat * 3 + 2, none⟩ = some (.bool ((rd_T62 x3_1 x4_1).f2)) := hcc10 2 _ rfl; have hf10_0 : w11.frozen? ⟨go10, (x4_1 : Int).toNat * 3, none⟩ = false := hfr10 0; have hf10_1 : w11.frozen? ⟨go10, (x4_1 : Int).toNat * 3 + 1, none⟩ = false := hfr10 1; have hf10_2 : w11.frozen? ⟨go10, (x4_1 : Int).toNat * 3 + 2, none⟩ = false := hfr10 2; clear hcl10 hcc10 hfr10 hM10; replace p10 := eq_true p10; replace q10 := eq_true q10; have HX12 := Aside0.mk (show Kd.R k62 62 w11 w.heap.size (fun _ => True) (.slice (some ⟨go10, 0, none⟩) x3_1.length co10) x3_1 from (pR HO_3)); obtain ⟨ce12, hcl12, hM12, hcc12, hfr12⟩ := Kd.R_elem HX12.out z62 (x4_1 : Int) (odt) (by have h_ : (x4_1 : Int) < ((x3_1.length : Int) : Int) := odt; exact h_); obtain rfl := k62_openM hM12; have HP12 := Kd.R_seg HX12.out (x4_1 : Int) (odt) (by have h_ : (x4_1 : Int) < ((x3_1.length : Int) : Int) := odt; exact h_) (seg := [.string t764, .int .i64 t765, .bool t766]) (j := 0) hcl12 hcc12 (show 3 ≤ 3 from by decide) (x' := (⟨t764, t765, t766⟩ : S62)) (k62_mkM _ _ _ (⟨t764, t765, t766⟩ : S62) ) (fun _ hk => hk); have hx12_0 := hcc12 0 _ rfl; (try simp only [show (k62).sz = 3 from rfl, Nat.mul_one, Nat.add_zero] at hx12_0); have hf12_0 := hfr12 0; (try simp only [show (k62).sz = 3 from rfl, Nat.mul_one, Nat.add_zero] at hf12_0); have hx12_1 := hcc12 1 _ rfl; (try simp only [show (k62).sz = 3 from rfl, Nat.mul_one, Nat.add_zero] at hx12_1); have hf12_1 := hfr12 1; (try simp only [show (k62).sz = 3 from rfl, Nat.mul_one, Nat.add_zero] at hf12_1); have hx12_2 := hcc12 2 _ rfl; (try simp only [show (k62).sz = 3 from rfl, Nat.mul_one, Nat.add_zero] at hx12_2); have hf12_2 := hfr12 2; (try simp only [show (k62).sz = 3 from rfl, Nat.mul_one, Nat.add_zero] at hf12_2); clear hcl12 hcc12 hfr12 hM12) | ((with_reducible refine gate_store (t := 62) (p := 21) rfl ?_); refine store_event (t := 62) (p := 21) (v := ?vo_w13) (w1 := (((w11.setCell ⟨go10, (x4_1 : Int).toNat * 3, none⟩ (.string t764)).setCell ⟨go10, (x4_1 : Int).toNat * 3 + 1, none⟩ (.int .i64 t765)).setCell ⟨go10, (x4_1 : Int).toNat * 3 + 2, none⟩ (.bool t766))) ?hg ?ho ?hn ?hr ?_; (case ho => rfl); (case hg => rfl); (case hn => rfl); (case hr => (go_simp; done)); intro w13 hw; have hg : w11.grownBy w13 (some go10) := (by rw [hw]; exact HP12.2); have hp_ : Kd.R k62 62 w13 w.heap.size (fun _ => True) (.slice (some ⟨go10, 0, none⟩) x3_1.length co10) y767 := (by rw [hw, Ny767.out]; exact HP12.1); clear HP12; have n0_ := Aside0.mk (hp_); have n1_ := Aside0.mk ((by rw [hw]; exact below_set (below_set (below_set (HB.out) GB10.out) GB10.out) GB10.out : Below w.heap.size w w13)); clear HO_3; clear HB; have HO_3 := n0_; have HB := n1_; clear n0_ n1_; clear hg hw hp_))
                go_roundg k1
                case measure => have := HK1.out; omega
                case rel => exact ⟨(y767), (wrap64 (x4_1 + 1)), vE, H', ⟨by have := HK1.out; omega⟩, ⟨by exact HO_3.out⟩, ⟨bW⟩⟩
              · rw [if_neg c9] at H
                exact absurd H (by simp)
            · rw [if_neg c7] at H
              exact absurd H (by simp)
          · rw [if_neg c6] at H
            have c6b0 : decide (x4_1 < (l0.length : Int)) = false := decide_eq_false c6
            clear c6
            obtain rfl := Option.some.inj H
            go_wp2
            go_ret
            exact ⟨_, by rfl, by exact HO_3.out, bW⟩
    · rw [if_neg c3] at H
      exact absurd H (by simp)
  · rw [if_neg c2] at H
    exact absurd H (by simp)
end Go.Proofs.Ytblejbgkcgajgaa.Q
end

section
namespace Go.Proofs.Ytblejbgkcgajgaa.Q
open Go.RowKit Go.Proofs.YtblejbgkcgajgaaW.PrintWords Go.Proofs.YtblejbgkcgajgaaW.PrintLast Go.Proofs.YtblejbgkcgajgaaW.PrintMore
attribute [local go_sem] max2_int min2_int max_two min_two max_three min_three max_four min_four   -- for this text's walks alone
set_option linter.unusedVariables false
set_option linter.unusedSimpArgs false
attribute [local go_sem] bin_leq bin_gtr bin_geq
def impl_Entry_49.f (l0 : List (S55)) : Option (Bool) := some (decide ((l0.length : Int) ≤ 4096))
set_option maxHeartbeats 8000000 in
set_option maxRecDepth 100000 in
theorem impl_Entry_49.calls (A0 : Option Addr) (c0 : Nat) (l0 : List (S55)) (r : Bool) (w : World) (hr0 : Kd.C k55 w A0 l0.length l0) (hc0 : l0.length ≤ c0) (h : impl_Entry_49.f l0 = some r) :
    Calls Try.prog 49 #[.slice A0 l0.length c0] w fun e w' => e = .returned (.bool r) ∧ Drawn0 w w' := by
  have HR0 := Aside0.mk hr0
  have HC0 := Aside0.mk hc0
  clear hr0 hc0
  have H : (some (decide ((l0.length : Int) ≤ 4096))) = some r := h
  clear h
  obtain rfl := Option.some.inj H
  go_enter Try.func49, Try.ntmps49
  go_wp2
  go_ret
  exact ⟨by first | rfl | (simp; done) | (simp [*]; done), by repeat (first | exact Drawn0.refl _ | apply Drawn0.step)⟩
end Go.Proofs.Ytblejbgkcgajgaa.Q
end

section
namespace Go.Proofs.Ytblejbgkcgajgaa.Q
open Go.RowKit Go.Proofs.YtblejbgkcgajgaaW.PrintWords Go.Proofs.YtblejbgkcgajgaaW.PrintLast Go.Proofs.YtblejbgkcgajgaaW.PrintMore
attribute [local go_sem] max2_int min2_int max_two min_two max_three min_three max_four min_four   -- for this text's walks alone
set_option linter.unusedVariables false
set_option linter.unusedSimpArgs false
attribute [local go_sem] bin_leq bin_gtr bin_geq
def idxI {α : Type} (p : α → Bool) (l : List α) : Int := match l.findIdx? p with | some i => (i : Int) | none => -1
theorem idxI_none {α : Type} {p : α → Bool} {l : List α} (h : ∀ j (hj : j < l.length), p l[j] = false) : idxI p l = -1 := by
  unfold idxI
  rw [List.findIdx?_eq_none_iff.mpr]
  intro x hx
  obtain ⟨j, hj, rfl⟩ := List.mem_iff_getElem.mp hx
  exact h j hj
theorem idxI_some {α : Type} {p : α → Bool} {l : List α} {i : Nat} (hi : i < l.length) (h : ∀ j (hj : j < i), p (l[j]'(by omega)) = false) (hp : p l[i] = true) : idxI p l = i := by
  unfold idxI
  rw [List.findIdx?_eq_some_iff_getElem.mpr ⟨hi, hp, fun j hj => by simp [h j hj]⟩]
theorem idxI_all {α : Type} (p : α → Bool) (l : List α) : (!decide (0 ≤ idxI (fun x => !p x) l)) = l.all p := by
  unfold idxI
  cases h : l.findIdx? (fun x => !p x) with
  | none =>
    have h2 := List.findIdx?_eq_none_iff.mp h
    have : l.all p = true := List.all_eq_true.mpr (fun x hx => by simpa using h2 x hx)
    rw [this]; decide
  | some i =>
    obtain ⟨hi, hp, _⟩ := List.findIdx?_eq_some_iff_getElem.mp h
    have : l.all p = false := by
      rw [Bool.eq_false_iff]
      intro ha
      have := List.all_eq_true.mp ha l[i] (List.getElem_mem hi)
      simp [this] at hp
    rw [this]
    have h0 : (0 : Int) ≤ (i : Int) := by omega
    simp [h0]
theorem enters_ {P : Program} {f : FuncId} {fn : Func} {c : Code} (hf : P.funcs[f]? = some fn) (hname : (fn.name == "runtime.NumGoroutine") = false) (hb : fn.body = some c) : ∀ (args : Array Value) (w : World), (callFunc f args).run P w = .ok (.enter f args) w := by
  intro args w
  have h1 : fn.name ≠ "runtime.NumGoroutine" := by simpa using hname
  simp [callFunc, hf, h1, hb, mark]
end Go.Proofs.Ytblejbgkcgajgaa.Q
end

section
namespace Go.Proofs.Ytblejbgkcgajgaa.Q
open Go.RowKit Go.Proofs.YtblejbgkcgajgaaW.PrintWords Go.Proofs.YtblejbgkcgajgaaW.PrintLast Go.Proofs.YtblejbgkcgajgaaW.PrintMore
attribute [local go_sem] max2_int min2_int max_two min_two max_three min_three max_four min_four   -- for this text's walks alone
set_option linter.unusedVariables false
set_option linter.unusedSimpArgs false
attribute [local go_sem] bin_leq bin_gtr bin_geq
def impl_within.f (a0 : Int) (a1 : Int) (a2 : Int) : Option (Bool) := if a1 ≤ a0 then (some (decide (a0 ≤ a2))) else (some false)
set_option maxHeartbeats 8000000 in
set_option maxRecDepth 100000 in
theorem impl_within.calls (a0 : Int) (a1 : Int) (a2 : Int) (r : Bool) (w : World) (h : impl_within.f a0 a1 a2 = some r) :
    Calls Try.prog 79 #[.int .i64 a0, .int .i64 a1, .int .i64 a2] w fun e w' => e = .returned (.bool r) ∧ Drawn0 w w' := by
  have H : (if a1 ≤ a0 then (some (decide (a0 ≤ a2))) else (some false)) = some r := h
  clear h
  by_cases c4 : a1 ≤ a0
  · rw [if_pos c4] at H
    have c4b0 : decide (a1 ≤ a0) = true := decide_eq_true c4
    clear c4
    obtain rfl := Option.some.inj H
    go_enter Try.func79, Try.ntmps79
    go_wp2
    go_ret
    exact ⟨by first | rfl | (simp; done) | (simp [*]; done), by repeat (first | exact Drawn0.refl _ | apply Drawn0.step)⟩
  · rw [if_neg c4] at H
    have c4b0 : decide (a1 ≤ a0) = false := decide_eq_false c4
    clear c4
    obtain rfl := Option.some.inj H
    go_enter Try.func79, Try.ntmps79
    go_wp2
    go_ret
    exact ⟨by first | rfl | (simp; done) | (simp [*]; done), by repeat (first | exact Drawn0.refl _ | apply Drawn0.step)⟩
end Go.Proofs.Ytblejbgkcgajgaa.Q
end

section
namespace Go.Proofs.Ytblejbgkcgajgaa.Q
open Go.RowKit Go.Proofs.YtblejbgkcgajgaaW.PrintWords Go.Proofs.YtblejbgkcgajgaaW.PrintLast Go.Proofs.YtblejbgkcgajgaaW.PrintMore
attribute [local go_sem] max2_int min2_int max_two min_two max_three min_three max_four min_four   -- for this text's walks alone
set_option linter.unusedVariables false
set_option linter.unusedSimpArgs false
attribute [local go_sem] bin_leq bin_gtr bin_geq
def Asks_byte (g : Nat) (lb : Array Value) (p : Int → Bool) (w : World) (l : List Int) : Prop :=
  ∀ (W : World) (x : Int), Below w.heap.size w W → x ∈ l → Calls Try.prog g (#[.int .u8 x] ++ lb) W fun e w' => e = .returned (.bool (p x)) ∧ Below W.heap.size W w'
set_option maxHeartbeats 2000000 in
set_option maxRecDepth 100000 in
theorem idxF_byte (g : Nat) (lb : Array Value) (eg : ∀ args w, (callFunc g args).run Try.prog w = .ok (.enter g args) w) (p : Int → Bool) (A0 : Option Addr) (c0 : Nat) (l0 : List Int) (w : World) (hr0 : Kd.C (Kd.int .u8) w A0 l0.length l0) (hc0 : l0.length ≤ c0) (hp : Asks_byte g lb p w l0) :
    Calls Try.prog 106 #[.slice A0 l0.length c0, .func (.func g) #[] lb] w fun e w' => e = .returned (.int .i64 (idxI p l0)) ∧ Below w.heap.size w w' := by
  have HM : l0.length ≤ 9223372036854775807 := hr0.2.1
  have HR0 := Aside0.mk hr0
  have HP := Aside0.mk hp
  clear hr0 hc0 hp
  go_enter Try.func106, Try.ntmps106
  go_wp2
  go_loopg [8] l0.length (fun gk v8 w' => ∃ kk : Nat, kk ≤ l0.length ∧ l0.length - kk ≤ gk ∧ v8 = .int .i64 kk ∧ Aside0 (∀ j (hj : j < l0.length), j < kk → p l0[j] = false) ∧ Aside0 (Below w.heap.size w w'))
  case atStart => exact ⟨0, Nat.zero_le _, by omega, rfl, ⟨fun j hj h => absurd h (Nat.not_lt_zero _)⟩, ⟨Below.refl _ _⟩⟩
  case round =>
    obtain ⟨kk, hkk, hg, rfl, HA, HB⟩ := hrel
    by_cases hlt : kk < l0.length
    · have hltz : (kk : Int) < (l0.length : Int) := by omega
      have HRW := Aside0.mk (Kd.C_below HR0.out HB.out)
      obtain ⟨ad, e1, hx⟩ := Kd.at_int HRW.out (kk : Int) (by omega) hltz
      cases e1
      have ex : rd l0 (kk : Int) = l0[kk] := by simp [rd, List.getD_eq_getElem?_getD, List.getElem?_eq_getElem hlt]
      rw [ex] at hx
      simp only [Int.toNat_natCast] at hx
      have hcall := HP.out _ l0[kk] HB.out (List.getElem_mem hlt)
      obtain ⟨y, hy⟩ : ∃ y, y = l0[kk] := ⟨_, rfl⟩
      rw [← hy] at hx hcall
      have HY := Aside0.mk hy
      clear hy ex
      cases hq : p y with
      | true =>
        rw [hq] at hcall
        have HC := Aside0.mk hcall
        have HQ := Aside0.mk hq
        clear hcall hq
        go_wp2_with ((with_reducible refine HC.out.mono ?_); rintro e w' ⟨rfl, hb'⟩)
        go_ret
        refine ⟨?_, below_then HB.out HB.out.size hb'⟩
        rw [idxI_some hlt (fun j hj => HA.out j (by omega) hj) (by rw [← HY.out]; exact HQ.out)]; rfl
      | false =>
        rw [hq] at hcall
        have HC := Aside0.mk hcall
        have HQ := Aside0.mk hq
        clear hcall hq
        go_wp2_with ((with_reducible refine HC.out.mono ?_); rintro e w' ⟨rfl, hb'⟩)
        go_roundg (l0.length - (kk + 1))
        case measure => omega
        case rel =>
          refine ⟨kk + 1, by omega, by omega, by go_num, ⟨fun j hj h => ?_⟩, ⟨below_then HB.out HB.out.size hb'⟩⟩
          by_cases e : j = kk
          · subst e
            rw [← HY.out]; exact HQ.out
          · exact HA.out j hj (by omega)
    · have hltz : ¬ (kk : Int) < (l0.length : Int) := by omega
      obtain rfl : kk = l0.length := by omega
      go_wp2
      go_ret
      exact ⟨by rw [idxI_none (fun j hj => HA.out j hj (by omega))]; rfl, HB.out⟩
end Go.Proofs.Ytblejbgkcgajgaa.Q
end

section
namespace Go.Proofs.Ytblejbgkcgajgaa.Q
open Go.RowKit Go.Proofs.YtblejbgkcgajgaaW.PrintWords Go.Proofs.YtblejbgkcgajgaaW.PrintLast Go.Proofs.YtblejbgkcgajgaaW.PrintMore
attribute [local go_sem] max2_int min2_int max_two min_two max_three min_three max_four min_four   -- for this text's walks alone
set_option linter.unusedVariables false
set_option linter.unusedSimpArgs false
attribute [local go_sem] bin_leq bin_gtr bin_geq
set_option maxHeartbeats 2000000 in
set_option maxRecDepth 100000 in
theorem hasF_byte (g : Nat) (lb : Array Value) (eg : ∀ args w, (callFunc g args).run Try.prog w = .ok (.enter g args) w) (p : Int → Bool) (A0 : Option Addr) (c0 : Nat) (l0 : List Int) (w : World) (hr0 : Kd.C (Kd.int .u8) w A0 l0.length l0) (hc0 : l0.length ≤ c0) (hp : Asks_byte g lb p w l0) :
    Calls Try.prog 98 #[.slice A0 l0.length c0, .func (.func g) #[] lb] w fun e w' => e = .returned (.bool (decide (0 ≤ idxI p l0))) ∧ Below w.heap.size w w' := by
  have HR0 := Aside0.mk hr0
  have HC0 := Aside0.mk hc0
  have HP := Aside0.mk hp
  have HE := Aside0.mk eg
  clear hr0 hc0 hp eg
  go_enter Try.func98, Try.ntmps98
  go_wp2_with (refine (idxF_byte g lb HE.out p A0 c0 l0 _ HR0.out HC0.out HP.out).mono ?_; rintro e w' ⟨rfl, hb⟩)
  go_ret
  exact ⟨rfl, hb⟩
theorem notF_byte (g : Nat) (lb : Array Value) (eg : ∀ args w, (callFunc g args).run Try.prog w = .ok (.enter g args) w) (p : Int → Bool) (l : List Int) (w : World) (B : Nat) (hB : B < w.heap.size) (hc : w.cell? ⟨B, 0, none⟩ = some (.func (.func g) #[] lb)) (hp : Asks_byte g lb p w l) :
    Asks_byte 99 #[.pointer (some ⟨B, 0, none⟩)] (fun x => !p x) w l := by
  intro W x hW hx
  have hc' : W.cell? ⟨B, 0, none⟩ = some (.func (.func g) #[] lb) := (hW.cell (p := ⟨B, 0, none⟩) hB).trans hc
  have hB' : B < W.heap.size := Nat.lt_of_lt_of_le hB hW.size
  have HC := Aside0.mk (hp W x hW hx)
  clear hp hx hc
  go_enter Try.func99, Try.ntmps99
  go_wp2_with (refine HC.out.mono ?_; rintro e w' ⟨rfl, hb⟩)
  go_ret
  exact ⟨rfl, hb⟩
set_option maxHeartbeats 2000000 in
set_option maxRecDepth 100000 in
theorem allF_byte (g : Nat) (lb : Array Value) (eg : ∀ args w, (callFunc g args).run Try.prog w = .ok (.enter g args) w) (p : Int → Bool) (A0 : Option Addr) (c0 : Nat) (l0 : List Int) (w : World) (hr0 : Kd.C (Kd.int .u8) w A0 l0.length l0) (hc0 : l0.length ≤ c0) (hp : Asks_byte g lb p w l0) :
    Calls Try.prog 81 #[.slice A0 l0.length c0, .func (.func g) #[] lb] w fun e w' => e = .returned (.bool (l0.all p)) ∧ Below w.heap.size w w' := by
  have e94 := idxI_all p l0
  have HN := Aside0.mk e94
  have HB0 : Below w.heap.size w (w.alloc (.cells #[.func (.func g) #[] lb] 92)) := (Below.refl _ _).alloc (Nat.le_refl _) _
  have HR0 := Aside0.mk (Kd.C_below hr0 HB0)
  have HP := Aside0.mk (notF_byte g lb eg p l0 (w.alloc (.cells #[.func (.func g) #[] lb] 92)) w.heap.size (by simp) (by simp) (fun W x hW hx => hp W x (below_then HB0 HB0.size hW) hx))
  have HC0 := Aside0.mk hc0
  have HBA := Aside0.mk HB0
  clear hr0 hc0 hp eg e94 HB0
  go_enter Try.func81, Try.ntmps81
  go_wp2_with (refine (hasF_byte 99 #[.pointer (some ⟨w.heap.size, 0, none⟩)] (enters_ Try.func99 (by kernel_rfl) rfl) (fun x => !p x) A0 c0 l0 _ HR0.out HC0.out HP.out).mono ?_; rintro e w' ⟨rfl, hb⟩)
  go_ret
  refine ⟨?_, below_then HBA.out HBA.out.size hb⟩
  show Ending.returned (.bool (!decide (0 ≤ idxI (fun x => !p x) l0))) = _
  rw [HN.out]
end Go.Proofs.Ytblejbgkcgajgaa.Q
end

section
namespace Go.Proofs.Ytblejbgkcgajgaa.Q
open Go.RowKit Go.Proofs.YtblejbgkcgajgaaW.PrintWords Go.Proofs.YtblejbgkcgajgaaW.PrintLast Go.Proofs.YtblejbgkcgajgaaW.PrintMore
attribute [local go_sem] max2_int min2_int max_two min_two max_three min_three max_four min_four   -- for this text's walks alone
set_option linter.unusedVariables false
set_option linter.unusedSimpArgs false
attribute [local go_sem] bin_leq bin_gtr bin_geq
def impl_NameOK.f (a0 : ByteArray) : Option (Bool) := some (nameB a0)
theorem nameOK_asks (l : List Int) (w : World) : Asks_byte 82 #[] (fun c => letB c || digB c) w l := by
  intro W x hW hx
  have A1 := Aside0.mk (impl_isLetter.calls x (letB x))
  have A2 := Aside0.mk (impl_isDigit.calls x (digB x))
  have F1 := Aside0.mk (letB_f x)
  have F2 := Aside0.mk (digB_f x)
  cases h1 : letB x with
  | true =>
    rw [h1] at A1 F1
    clear A2
    go_enter Try.func82, Try.ntmps82
    go_wp2_with (refine (A1.out _ F1.out).mono ?_; rintro e w' ⟨rfl, ⟨n, rfl⟩⟩)
    go_ret
    exact ⟨by first | rfl | simp [h1], pw_below_drewN (Below.refl _ _) _⟩
  | false =>
    rw [h1] at A1 F1
    go_enter Try.func82, Try.ntmps82
    go_wp2_with (first | (go_at_call 80; refine (A1.out _ F1.out).mono ?_; rintro e w' ⟨rfl, ⟨n, rfl⟩⟩) | (go_at_call 83; refine (A2.out _ F2.out).mono ?_; rintro e w' ⟨rfl, ⟨n, rfl⟩⟩))
    go_ret
    exact ⟨by first | rfl | simp [h1], by repeat (first | exact Below.refl _ _ | apply pw_below_drewN)⟩
set_option maxHeartbeats 4000000 in
set_option maxRecDepth 100000 in
theorem impl_NameOK.calls (a0 : ByteArray) (r : Bool) (w : World) (h : impl_NameOK.f a0 = some r) :
    Calls Try.prog 65 #[.string a0] w fun e w' => e = .returned (.bool r) ∧ Below w.heap.size w w' := by
  obtain rfl := Option.some.inj h
  clear h
  by_cases h1 : 1 ≤ a0.size ∧ a0.size ≤ 12
  · have F1 := Aside0.mk (show impl_within.f (a0.size : Int) 1 12 = some true by unfold impl_within.f; rw [if_pos (by omega), decide_eq_true (by omega)])
    have F2 := Aside0.mk (letB_f (bt a0 0))
    have i0 : (0 : Int) < (a0.size : Int) := by omega
    have hbt : ∀ h : 0 < a0.size, ((a0[0]'h).toNat : Int) = bt a0 0 := bt_at a0 0
    have j0 : 0 < a0.size := by omega
    cases h2 : letB (bt a0 0) with
    | true =>
      rw [h2] at F2
      have hcv := fun w => Go.Lib.run_convert_string_bytes (P := Try.prog) w 9 80 5 a0 Try.underlying9 Try.underlying80 Try.underlying5
      have R1 := Aside0.mk (show nameB a0 = (bytesL a0).all (fun c => letB c || digB c) by simp [nameB, h1.1, h1.2, h2])
      have hsz : a0.size ≤ 9223372036854775807 := by omega
      have hn := Aside0.mk h1
      clear h1
      go_enter Try.func65, Try.ntmps65
      go_wp2_with fail
      refine (impl_within.calls (a0.size : Int) 1 12 true _ F1.out).mono ?_
      rintro e w' ⟨rfl, ⟨nd, rfl⟩⟩
      go_wp2_with fail

      refine (impl_isLetter.calls (bt a0 0) true _ F2.out).mono ?_
      rintro e w' ⟨rfl, ⟨nd2, rfl⟩⟩
      go_wp2_with fail
      have HBx := below_bytes (w.drewN (nd + nd2)) a0 5
      have HBy : Below w.heap.size w (Go.Lib.bytesWorld (w.drewN (nd + nd2)) 5 a0) := below_then (pw_below_drewN (Below.refl _ _) _) (Nat.le_refl _) HBx
      have hA := allF_byte 82 #[] (enters_ Try.func82 (by kernel_rfl) rfl) (fun c => letB c || digB c) _ (grownCap (w.drewN (nd + nd2)) a0.size 0 5) (bytesL a0) (Go.Lib.bytesWorld (w.drewN (nd + nd2)) 5 a0) (bytesL_cells (w.drewN (nd + nd2)) a0 hsz) (by rw [bytesL_length]; exact grownCap_ge _ _ _ _) (nameOK_asks _ _)
      rw [bytesL_length] at hA
      refine hA.mono ?_
      rintro e w' ⟨rfl, hb⟩
      have hb2 := Aside0.mk (below_then HBy HBy.size hb)
      clear hb HBx HBy hA
      go_wp2
      go_ret
      exact ⟨by rw [R1.out]; rfl, hb2.out⟩
    | false =>
      rw [h2] at F2
      have R1 := Aside0.mk (show nameB a0 = false by simp [nameB, h2])
      have hn := Aside0.mk h1
      clear h1
      go_enter Try.func65, Try.ntmps65
      go_wp2_with fail
      refine (impl_within.calls (a0.size : Int) 1 12 true _ F1.out).mono ?_
      rintro e w' ⟨rfl, ⟨nd, rfl⟩⟩
      go_wp2_with fail
      refine (impl_isLetter.calls (bt a0 0) false _ F2.out).mono ?_
      rintro e w' ⟨rfl, ⟨nd2, rfl⟩⟩
      go_wp2
      go_ret
      exact ⟨by rw [R1.out]; rfl, by repeat (first | exact Below.refl _ _ | apply pw_below_drewN)⟩
  · have F1 := Aside0.mk (show impl_within.f (a0.size : Int) 1 12 = some false by
      unfold impl_within.f
      by_cases h3 : 1 ≤ (a0.size : Int)
      · rw [if_pos h3, decide_eq_false (by omega)]
      · rw [if_neg h3])
    have R1 := Aside0.mk (show nameB a0 = false by
      unfold nameB
      by_cases h3 : 1 ≤ a0.size
      · have h4 : ¬ a0.size ≤ 12 := by omega
        simp [h4]
      · simp [h3])
    clear h1
    go_enter Try.func65, Try.ntmps65
    go_wp2_with fail
    refine (impl_within.calls (a0.size : Int) 1 12 false _ F1.out).mono ?_
    rintro e w' ⟨rfl, ⟨nd, rfl⟩⟩
    go_wp2
    go_ret
    exact ⟨by rw [R1.out]; rfl, by repeat (first | exact Below.refl _ _ | apply pw_below_drewN)⟩
end Go.Proofs.Ytblejbgkcgajgaa.Q
end

section
namespace Go.Proofs.Ytblejbgkcgajgaa.Q
open Go.RowKit Go.Proofs.YtblejbgkcgajgaaW.PrintWords Go.Proofs.YtblejbgkcgajgaaW.PrintLast Go.Proofs.YtblejbgkcgajgaaW.PrintMore
attribute [local go_sem] max2_int min2_int max_two min_two max_three min_three max_four min_four   -- for this text's walks alone
set_option linter.unusedVariables false
set_option linter.unusedSimpArgs false
attribute [local go_sem] bin_leq bin_gtr bin_geq
def impl_isValue.f (a0 : Int) : Option (Bool) := (impl_within.f a0 (-1000000) 1000000).bind fun t161 => (some t161)
set_option maxHeartbeats 8000000 in
set_option maxRecDepth 100000 in
theorem impl_isValue.calls (a0 : Int) (r : Bool) (w : World) (h : impl_isValue.f a0 = some r) :
    Calls Try.prog 66 #[.int .i64 a0] w fun e w' => e = .returned (.bool r) ∧ Drawn0 w w' := by
  have H : ((impl_within.f a0 (-1000000) 1000000).bind fun t161 => (some t161)) = some r := h
  clear h
  replace H := Option.bind_eq_some_iff.mp H
  obtain ⟨t161, A20, H⟩ := H
  replace H : (some t161) = some r := H
  have A2 := Aside0.mk A20
  clear A20
  obtain rfl := Option.some.inj H
  go_enter Try.func66, Try.ntmps66
  go_wp2_with (first | ((with_reducible refine gate_callee (f := 79) rfl ?_); refine goesL_ (some 4) rfl rfl Try.func79 (by kernel_rfl) rfl #[.int .i64 a0, .int .i64 (-1000000), .int .i64 1000000] rfl gA ?_; (with_reducible refine (impl_within.calls a0 (-1000000) 1000000 t161 _ A2.out).mono ?_); rintro e w' ⟨rfl, ⟨nd, rfl⟩⟩; refine ⟨_, rfl, ?_⟩))
  go_ret
  exact ⟨by first | rfl | (simp; done) | (simp [*]; done), by repeat (first | exact Drawn0.refl _ | apply Drawn0.step)⟩
end Go.Proofs.Ytblejbgkcgajgaa.Q
end

section
namespace Go.Proofs.Ytblejbgkcgajgaa.Q
open Go.RowKit Go.Proofs.YtblejbgkcgajgaaW.PrintWords Go.Proofs.YtblejbgkcgajgaaW.PrintLast Go.Proofs.YtblejbgkcgajgaaW.PrintMore
attribute [local go_sem] max2_int min2_int max_two min_two max_three min_three max_four min_four   -- for this text's walks alone
set_option linter.unusedVariables false
set_option linter.unusedSimpArgs false
attribute [local go_sem] bin_leq bin_gtr bin_geq
def impl_MapOK.l0 : Nat → List (S55) → List (S55) → Int → Int → Option (Bool)
  | 0, _, _, _, _ => none
  | k + 1, x0, x5, x6, x7 => if x7 < x6 then (if 0 ≤ x7 then (if x7 < (x5.length : Int) then ((impl_NameOK.f ((rd_T55 x5 x7).f0)).bind fun t164 => (if t164 = true then ((impl_isValue.f ((rd_T55 x5 x7).f1)).bind fun t165 => (if t165 = true then (if x7 > 0 then (if 0 ≤ (wrap64 (x7 - 1)) then (if (wrap64 (x7 - 1)) < (x0.length : Int) then (if ((Op.bytesLess (((rd_T55 x0 (wrap64 (x7 - 1))).f0).toList) (((rd_T55 x5 x7).f0).toList)) = true) then (impl_MapOK.l0 k x0 x5 x6 (wrap64 (x7 + 1))) else (some false)) else (none)) else (none)) else (impl_MapOK.l0 k x0 x5 x6 (wrap64 (x7 + 1)))) else (some false))) else (some false))) else (none)) else (none)) else (some (decide ((x0.length : Int) ≤ 12)))
def impl_MapOK.f (k : Nat) (l0 : List (S55)) : Option (Bool) := impl_MapOK.l0 k l0 l0 (l0.length : Int) 0
def impl_MapOK.T4 : Bool × List (List Nat × List Nat) := (true, [([], []), ([0], [0]), ([1], [1]), ([2], [2]), ([3, 2], [3]), ([4], [4]), ([5, 4], [4, 5]), ([6, 4, 4], [4, 6]), ([7, 4], [4, 7]), ([4, 8], [4, 8]), ([9, 7], [9]), ([10], [10]), ([11, 10], [10, 11]), ([12, 10, 10], [10, 12]), ([13], [13]), ([13], [13]), ([15, 13], [13, 15]), ([14, 16, 13], [13, 14, 16]), ([17, 13], [13, 17]), ([18, 13], [13, 18]), ([13], [13]), ([20, 13], [13, 20]), ([19, 21, 13], [13, 19, 21]), ([13, 22, 10], [10, 13, 22]), ([10, 23], [10, 23])])
def impl_MapOK.B4 : List Nat := [0, 1, 3, 7, 15, 31, 63, 127, 255, 511, 1023, 2047, 4095, 8191, 16383, 16383, 49151, 131071, 262143, 524287, 16383, 1064959, 4194303, 8388607, 16777215]
theorem impl_MapOK.tab4 : rtab .any (opsOf Try.f51 4) = impl_MapOK.T4 := by kernel_rfl
theorem impl_MapOK.bits4 : waitsOk impl_MapOK.T4.2 impl_MapOK.B4 = true := by kernel_rfl
set_option maxHeartbeats 8000000 in
set_option maxRecDepth 100000 in
theorem impl_MapOK.calls (k : Nat) (A0 : Option Addr) (c0 : Nat) (l0 : List (S55)) (r : Bool) (w : World) (hr0 : Kd.C k55 w A0 l0.length l0) (hc0 : l0.length ≤ c0) (h : impl_MapOK.f k l0 = some r) :
    Calls Try.prog 51 #[.slice A0 l0.length c0] w fun e w' => e = .returned (.bool r) ∧ Below w.heap.size w w' := by
  have hu55 := Try.underlying55
  have HR0 := Aside0.mk hr0
  have HC0 := Aside0.mk hc0
  clear hr0 hc0
  have HB := Aside0.mk (Below.refl w.heap.size w)
  have H : (impl_MapOK.l0 k l0 l0 (l0.length : Int) 0) = some r := h
  clear h
  have H' := Aside0.mk H
  clear H
  go_enter Try.func51, Try.ntmps51
  go_wp2
  go_loopg [7] k (fun kq v7 w' => ∃ (x7_1 : Int), v7 = .int .i64 x7_1 ∧ Aside0 (impl_MapOK.l0 kq l0 l0 (l0.length : Int) x7_1 = some r) ∧ Aside0 (kq ≤ k) ∧ Aside0 (Below w.heap.size w w'))
  case atStart => exact ⟨(0), vE, H', ⟨Nat.le_refl _⟩, ⟨bW⟩⟩
  case round =>
    clear H'
    obtain ⟨x7_1, rfl, HA, HK1, HB⟩ := hrel
    cases gk with
    | zero => exact absurd HA.out (by simp [impl_MapOK.l0])
    | succ k1 =>
      have H := HA.out
      clear HA
      simp only [impl_MapOK.l0] at H
      by_cases c2 : x7_1 < (l0.length : Int)
      · rw [if_pos c2] at H
        have c2b0 : decide (x7_1 < (l0.length : Int)) = true := decide_eq_true c2
        clear c2
        by_cases c3 : 0 ≤ x7_1
        · rw [if_pos c3] at H
          have c3b0 : decide (0 ≤ x7_1) = true := decide_eq_true c3
          clear c3
          by_cases c4 : x7_1 < (l0.length : Int)
          · rw [if_pos c4] at H
            have c4b0 : decide (x7_1 < (l0.length : Int)) = true := decide_eq_true c4
            clear c4
            replace H := Option.bind_eq_some_iff.mp H
            obtain ⟨t164, A50, H⟩ := H
            replace H : (if t164 = true then ((impl_isValue.f ((rd_T55 l0 x7_1).f1)).bind fun t165 => (if t165 = true then (if x7_1 > 0 then (if 0 ≤ (wrap64 (x7_1 - 1)) then (if (wrap64 (x7_1 - 1)) < (l0.length : Int) then (if ((Op.bytesLess (((rd_T55 l0 (wrap64 (x7_1 - 1))).f0).toList) (((rd_T55 l0 x7_1).f0).toList)) = true) then (impl_MapOK.l0 k1 l0 l0 (l0.length : Int) (wrap64 (x7_1 + 1))) else (some false)) else (none)) else (none)) else (impl_MapOK.l0 k1 l0 l0 (l0.length : Int) (wrap64 (x7_1 + 1)))) else (some false))) else (some false)) = some r := H
            have A5 := Aside0.mk A50
            clear A50
            by_cases c6 : t164 = true
            · subst c6
              have H1 : ((impl_isValue.f ((rd_T55 l0 x7_1).f1)).bind fun t165 => (if t165 = true then (if x7_1 > 0 then (if 0 ≤ (wrap64 (x7_1 - 1)) then (if (wrap64 (x7_1 - 1)) < (l0.length : Int) then (if ((Op.bytesLess (((rd_T55 l0 (wrap64 (x7_1 - 1))).f0).toList) (((rd_T55 l0 x7_1).f0).toList)) = true) then (impl_MapOK.l0 k1 l0 l0 (l0.length : Int) (wrap64 (x7_1 + 1))) else (some false)) else (none)) else (none)) else (impl_MapOK.l0 k1 l0 l0 (l0.length : Int) (wrap64 (x7_1 + 1)))) else (some false))) = some r := by rw [if_pos rfl] at H; exact H
              clear H
              have H := H1
              clear H1
              replace H := Option.bind_eq_some_iff.mp H
              obtain ⟨t165, A70, H⟩ := H
              replace H : (if t165 = true then (if x7_1 > 0 then (if 0 ≤ (wrap64 (x7_1 - 1)) then (if (wrap64 (x7_1 - 1)) < (l0.length : Int) then (if ((Op.bytesLess (((rd_T55 l0 (wrap64 (x7_1 - 1))).f0).toList) (((rd_T55 l0 x7_1).f0).toList)) = true) then (impl_MapOK.l0 k1 l0 l0 (l0.length : Int) (wrap64 (x7_1 + 1))) else (some false)) else (none)) else (none)) else (impl_MapOK.l0 k1 l0 l0 (l0.length : Int) (wrap64 (x7_1 + 1)))) else (some false)) = some r := H
              have A7 := Aside0.mk A70
              clear A70
              by_cases c8 : t165 = true
              · subst c8
                have H1 : (if x7_1 > 0 then (if 0 ≤ (wrap64 (x7_1 - 1)) then (if (wrap64 (x7_1 - 1)) < (l0.length : Int) then (if ((Op.bytesLess (((rd_T55 l0 (wrap64 (x7_1 - 1))).f0).toList) (((rd_T55 l0 x7_1).f0).toList)) = true) then (impl_MapOK.l0 k1 l0 l0 (l0.length : Int) (wrap64 (x7_1 + 1))) else (some false)) else (none)) else (none)) else (impl_MapOK.l0 k1 l0 l0 (l0.length : Int) (wrap64 (x7_1 + 1)))) = some r := by rw [if_pos rfl] at H; exact H
                clear H
                have H := H1
                clear H1
                by_cases c9 : x7_1 > 0
                · rw [if_pos c9] at H
                  have c9b0 : decide (0 < x7_1) = true := decide_eq_true c9
                  clear c9
                  obtain ⟨ji10, hji10⟩ : ∃ j_ : Int, (wrap64 (x7_1 - 1)) = j_ := ⟨_, rfl⟩
                  replace H : (if 0 ≤ (ji10) then (if (ji10) < (l0.length : Int) then (if ((Op.bytesLess (((rd_T55 l0 (ji10)).f0).toList) (((rd_T55 l0 x7_1).f0).toList)) = true) then (impl_MapOK.l0 k1 l0 l0 (l0.length : Int) (wrap64 (x7_1 + 1))) else (some false)) else (none)) else (none)) = some r := by (rw [hji10] at H; exact H)
                  have hji10w : (IntKind.i64.wrap (x7_1 - 1)) = ji10 := (i64_w _).trans hji10
                  by_cases c11 : 0 ≤ (ji10)
                  · rw [if_pos c11] at H
                    have c11b0 : decide (0 ≤ (ji10)) = true := decide_eq_true c11
                    clear c11
                    by_cases c12 : (ji10) < (l0.length : Int)
                    · rw [if_pos c12] at H
                      have c12b0 : decide ((ji10) < (l0.length : Int)) = true := decide_eq_true c12
                      clear c12
                      by_cases c13 : ((Op.bytesLess (((rd_T55 l0 (ji10)).f0).toList) (((rd_T55 l0 x7_1).f0).toList)) = true)
                      · rw [if_pos c13] at H
                        have c13b0 : (Op.bytesLess (((rd_T55 l0 (ji10)).f0).toList) (((rd_T55 l0 x7_1).f0).toList)) = true := c13
                        clear c13
                        have H' := Aside0.mk H
                        clear H
                        have p162 : 0 ≤ (x7_1 : Int) := odt
                        have q162 : x7_1 < (l0.length : Int) := odt
                        obtain ⟨ad162, e162, hx162_0, hx162_1⟩ := at_T55 HR0.out x7_1 p162 q162
                        cases e162
                        replace hx162_0 := (HB.out.cell (World.block_lt_of_cell? w _ hx162_0)).trans hx162_0
                        replace hx162_1 := (HB.out.cell (World.block_lt_of_cell? w _ hx162_1)).trans hx162_1
                        replace p162 := eq_true p162
                        replace q162 := eq_true q162
                        try go_wp2_with (((with_reducible refine gate_dst (N := 4) rfl ?_); refine bE (N := 4) (cs := #[.string (⟨#[]⟩ : ByteArray), .int .i64 0]) (t := 55) ?_; intro gb163 hg w14 hbox hb; have n0_ := Aside0.mk (below_step (w := w) bW hb); have n1_ := Aside0.mk (hbox); have n2_ := Aside0.mk (gS (w := w) hg); have n3_ := n2_; clear HB; have HB := n0_; have BK163 := n1_; have GW163 := n2_; have GE163 := n3_; clear n0_ n1_ n2_ n3_; clear hb hbox hg; obtain ⟨hcz15_0, hcz15_1⟩ := cz2 BK163; obtain ⟨hfz15_0, hfz15_1⟩ := fz2 BK163))
                        have n0_ : Aside0 (((w14.setCell ⟨gb163, 0, none⟩ (.string ((rd_T55 l0 x7_1).f0))).setCell ⟨gb163, 1, none⟩ (.int .i64 ((rd_T55 l0 x7_1).f1))).heap[gb163]? = some (.cells #[.string ((rd_T55 l0 x7_1).f0), .int .i64 ((rd_T55 l0 x7_1).f1)] 55 (0, 0))) := ⟨by refine blk_put (cs := #[.string ((rd_T55 l0 x7_1).f0), .int .i64 0]) ?_ 1 _ rfl; refine blk_put (cs := #[.string (⟨#[]⟩ : ByteArray), .int .i64 0]) ?_ 0 _ rfl; exact BK163.out⟩
                        have n1_ : Aside0 (Below w.heap.size w ((w14.setCell ⟨gb163, 0, none⟩ (.string ((rd_T55 l0 x7_1).f0))).setCell ⟨gb163, 1, none⟩ (.int .i64 ((rd_T55 l0 x7_1).f1)))) := ⟨bW⟩
                        (try clear BK163)
                        (try clear HB)
                        generalize ((w14.setCell ⟨gb163, 0, none⟩ (.string ((rd_T55 l0 x7_1).f0))).setCell ⟨gb163, 1, none⟩ (.int .i64 ((rd_T55 l0 x7_1).f1))) = w16 at n0_ n1_ ⊢
                        have BK163 := n0_
                        have HB := n1_
                        clear n0_ n1_
                        have n0_ := Aside0.mk (blk_drew BK163.out)
                        have n1_ := Aside0.mk (below_drew1 HB.out)
                        clear BK163
                        clear HB
                        have BK163 := n0_
                        have HB := n1_
                        clear n0_ n1_
                        have p166 : 0 ≤ ((ji10) : Int) := odt
                        have q166 : (ji10) < (l0.length : Int) := odt
                        obtain ⟨ad166, e166, hx166_0, hx166_1⟩ := at_T55 HR0.out (ji10) p166 q166
                        have hw166_1 := hx166_1
                        have hw166_0 := hx166_0
                        obtain rfl : ad162 = ad166 := (by injection e166)
                        replace hx166_0 := (HB.out.cell (World.block_lt_of_cell? w _ hx166_0)).trans hx166_0
                        replace hx166_1 := (HB.out.cell (World.block_lt_of_cell? w _ hx166_1)).trans hx166_1
                        replace p166 := eq_true p166
                        replace q166 := eq_true q166
                        refine start_ (n := 25) (S := fun w' => w'.cell? ⟨gb163, 0, none⟩ = some (.string ((rd_T55 l0 x7_1).f0)) ∧ w'.cell? ⟨gb163, 1, none⟩ = some (.int .i64 ((rd_T55 l0 x7_1).f1)) ∧ w'.cell? (ad162.add (((ji10)).toNat * 2)) = some (.string ((rd_T55 l0 (ji10)).f0)) ∧ w'.cell? ⟨(ad162.add (((ji10)).toNat * 2)).block, (ad162.add (((ji10)).toNat * 2)).off + 1, none⟩ = some (.int .i64 ((rd_T55 l0 (ji10)).f1))) (ds := []) (bs 25 0) (by kernel_rfl) rfl rfl ⟨(blk_cell BK163.out 0).trans rfl, (blk_cell BK163.out 1).trans rfl, ((HB.out.cell (World.block_lt_of_cell? w _ hw166_0)).trans hw166_0), ((HB.out.cell (World.block_lt_of_cell? w _ hw166_1)).trans hw166_1)⟩ (fun hHeld => ?_); refine with_tabW impl_MapOK.tab4 impl_MapOK.bits4 (fun HT_ HW_ => ?_)
                        generalize w16.drew = w17 at BK163 HB hx166_0 hx166_1 hHeld ⊢
                        refine pz 0 12 (bs 25 1) HT_ ?_
                        refine tz 1 13 (bs 25 3) HT_ HW_ hHeld ?_
                        refine one_ (i := 2) (N := some 14) (bs 25 7) rfl rfl (one_of HT_.out (by kernel_rfl)) (by decide) (fun K hK => ?_)
                        refine goes_ Try.func65 (by kernel_rfl) rfl #[.string ((rd_T55 l0 x7_1).f0)] (by rfl) rfl rfl gA ?_
                        with_reducible refine (impl_NameOK.calls ((rd_T55 l0 x7_1).f0) true _ A5.out).mono ?_
                        rintro e w18 ⟨rfl, hb⟩
                        refine ⟨_, rfl, ?_⟩
                        have n0_ := Aside0.mk (kb BK163 hb)
                        have n1_ := Aside0.mk (below_step (w := w) bW hb)
                        clear BK163
                        clear HB
                        have BK163 := n0_
                        have HB := n1_
                        clear n0_ n1_
                        (try clear hb)
                        refine hK.out _ _ ⟨(blk_cell BK163.out 0).trans rfl, (blk_cell BK163.out 1).trans rfl, ((HB.out.cell (World.block_lt_of_cell? w _ hw166_0)).trans hw166_0), ((HB.out.cell (World.block_lt_of_cell? w _ hw166_1)).trans hw166_1)⟩ (fun hHeld => ?_)
                        clear hK K
                        refine norm_ (a' := ?_) ?_ ?_
                        rotate_left
                        · show Act.put _ (some 14) _ = _
                          simp only [Act.put, List.setIfInBounds_toArray, List.set_cons_zero, List.set_cons_succ, i64_w, i32_w]
                          rfl
                        refine pz 3 15 (bs 25 15) HT_ ?_
                        refine pz 4 16 (bs 25 31) HT_ ?_
                        refine pz 5 17 (bs 25 63) HT_ ?_
                        refine tz 6 18 (bs 25 127) HT_ HW_ hHeld ?_
                        refine one_ (i := 7) (N := some 19) (bs 25 255) rfl rfl (one_of HT_.out (by kernel_rfl)) (by decide) (fun K hK => ?_)
                        refine goes_ Try.func66 (by kernel_rfl) rfl #[.int .i64 ((rd_T55 l0 x7_1).f1)] (by rfl) rfl rfl gA ?_
                        with_reducible refine (impl_isValue.calls ((rd_T55 l0 x7_1).f1) true _ A7.out).mono ?_
                        rintro e w' ⟨rfl, ⟨nd, rfl⟩⟩
                        refine ⟨_, rfl, ?_⟩
                        refine hK.out _ _ ⟨(blk_cell BK163.out 0).trans rfl, (blk_cell BK163.out 1).trans rfl, ((HB.out.cell (World.block_lt_of_cell? w _ hw166_0)).trans hw166_0), ((HB.out.cell (World.block_lt_of_cell? w _ hw166_1)).trans hw166_1)⟩ (fun hHeld => ?_)
                        clear hK K
                        refine norm_ (a' := ?_) ?_ ?_
                        rotate_left
                        · show Act.put _ (some 19) _ = _
                          simp only [Act.put, List.setIfInBounds_toArray, List.set_cons_zero, List.set_cons_succ, i64_w, i32_w]
                          rfl
                        refine pz 8 20 (bs 25 511) HT_ ?_
                        refine pz 9 21 (bs 25 1023) HT_ ?_
                        refine pz 10 22 (bs 25 2047) HT_ ?_
                        refine pz 11 23 (bs 25 4095) HT_ ?_
                        refine pz 12 24 (bs 25 8191) HT_ ?_
                        refine pz 13 25 (bs 25 16383) HT_ ?_
                        refine pz 14 26 (bs 25 32767) HT_ ?_
                        refine pz 15 27 (bs 25 65535) HT_ ?_
                        refine pz 16 28 (bs 25 131071) HT_ ?_
                        refine pz 17 29 (bs 25 262143) HT_ ?_
                        refine pz 18 30 (bs 25 524287) HT_ ?_
                        refine pz 20 32 (bs 25 1572863) HT_ ?_
                        refine tz 19 31 (bs 25 2097151) HT_ HW_ hHeld ?_
                        refine tz 21 33 (bs 25 4194303) HT_ HW_ hHeld ?_
                        refine pz 22 34 (bs 25 8388607) HT_ ?_
                        refine pz 23 35 (bs 25 16777215) HT_ ?_
                        refine pz 24 36 (bs 25 33554431) HT_ ?_
                        refine done_ (done_of HT_.out (by kernel_rfl)) ?_
                        try go_wp2
                        go_roundg k1
                        case measure => have := HK1.out; omega
                        case rel => exact ⟨(wrap64 (x7_1 + 1)), vE, H', ⟨by have := HK1.out; omega⟩, ⟨bW⟩⟩
                      · rw [if_neg c13] at H
                        have c13b0 : (Op.bytesLess (((rd_T55 l0 (ji10)).f0).toList) (((rd_T55 l0 x7_1).f0).toList)) = false := by simpa using c13
                        clear c13
                        obtain rfl := Option.some.inj H
                        have p162 : 0 ≤ (x7_1 : Int) := odt
                        have q162 : x7_1 < (l0.length : Int) := odt
                        obtain ⟨ad162, e162, hx162_0, hx162_1⟩ := at_T55 HR0.out x7_1 p162 q162
                        cases e162
                        replace hx162_0 := (HB.out.cell (World.block_lt_of_cell? w _ hx162_0)).trans hx162_0
                        replace hx162_1 := (HB.out.cell (World.block_lt_of_cell? w _ hx162_1)).trans hx162_1
                        replace p162 := eq_true p162
                        replace q162 := eq_true q162
                        try go_wp2_with (((with_reducible refine gate_dst (N := 4) rfl ?_); refine bE (N := 4) (cs := #[.string (⟨#[]⟩ : ByteArray), .int .i64 0]) (t := 55) ?_; intro gb163 hg w19 hbox hb; have n0_ := Aside0.mk (below_step (w := w) bW hb); have n1_ := Aside0.mk (hbox); have n2_ := Aside0.mk (gS (w := w) hg); have n3_ := n2_; clear HB; have HB := n0_; have BK163 := n1_; have GW163 := n2_; have GE163 := n3_; clear n0_ n1_ n2_ n3_; clear hb hbox hg; obtain ⟨hcz20_0, hcz20_1⟩ := cz2 BK163; obtain ⟨hfz20_0, hfz20_1⟩ := fz2 BK163))
                        have n0_ : Aside0 (((w19.setCell ⟨gb163, 0, none⟩ (.string ((rd_T55 l0 x7_1).f0))).setCell ⟨gb163, 1, none⟩ (.int .i64 ((rd_T55 l0 x7_1).f1))).heap[gb163]? = some (.cells #[.string ((rd_T55 l0 x7_1).f0), .int .i64 ((rd_T55 l0 x7_1).f1)] 55 (0, 0))) := ⟨by refine blk_put (cs := #[.string ((rd_T55 l0 x7_1).f0), .int .i64 0]) ?_ 1 _ rfl; refine blk_put (cs := #[.string (⟨#[]⟩ : ByteArray), .int .i64 0]) ?_ 0 _ rfl; exact BK163.out⟩
                        have n1_ : Aside0 (Below w.heap.size w ((w19.setCell ⟨gb163, 0, none⟩ (.string ((rd_T55 l0 x7_1).f0))).setCell ⟨gb163, 1, none⟩ (.int .i64 ((rd_T55 l0 x7_1).f1)))) := ⟨bW⟩
                        (try clear BK163)
                        (try clear HB)
                        generalize ((w19.setCell ⟨gb163, 0, none⟩ (.string ((rd_T55 l0 x7_1).f0))).setCell ⟨gb163, 1, none⟩ (.int .i64 ((rd_T55 l0 x7_1).f1))) = w21 at n0_ n1_ ⊢
                        have BK163 := n0_
                        have HB := n1_
                        clear n0_ n1_
                        have n0_ := Aside0.mk (blk_drew BK163.out)
                        have n1_ := Aside0.mk (below_drew1 HB.out)
                        clear BK163
                        clear HB
                        have BK163 := n0_
                        have HB := n1_
                        clear n0_ n1_
                        have p166 : 0 ≤ ((ji10) : Int) := odt
                        have q166 : (ji10) < (l0.length : Int) := odt
                        obtain ⟨ad166, e166, hx166_0, hx166_1⟩ := at_T55 HR0.out (ji10) p166 q166
                        have hw166_1 := hx166_1
                        have hw166_0 := hx166_0
                        obtain rfl : ad162 = ad166 := (by injection e166)
                        replace hx166_0 := (HB.out.cell (World.block_lt_of_cell? w _ hx166_0)).trans hx166_0
                        replace hx166_1 := (HB.out.cell (World.block_lt_of_cell? w _ hx166_1)).trans hx166_1
                        replace p166 := eq_true p166
                        replace q166 := eq_true q166
                        refine start_ (n := 25) (S := fun w' => w'.cell? ⟨gb163, 0, none⟩ = some (.string ((rd_T55 l0 x7_1).f0)) ∧ w'.cell? ⟨gb163, 1, none⟩ = some (.int .i64 ((rd_T55 l0 x7_1).f1)) ∧ w'.cell? (ad162.add (((ji10)).toNat * 2)) = some (.string ((rd_T55 l0 (ji10)).f0)) ∧ w'.cell? ⟨(ad162.add (((ji10)).toNat * 2)).block, (ad162.add (((ji10)).toNat * 2)).off + 1, none⟩ = some (.int .i64 ((rd_T55 l0 (ji10)).f1))) (ds := []) (bs 25 0) (by kernel_rfl) rfl rfl ⟨(blk_cell BK163.out 0).trans rfl, (blk_cell BK163.out 1).trans rfl, ((HB.out.cell (World.block_lt_of_cell? w _ hw166_0)).trans hw166_0), ((HB.out.cell (World.block_lt_of_cell? w _ hw166_1)).trans hw166_1)⟩ (fun hHeld => ?_); refine with_tabW impl_MapOK.tab4 impl_MapOK.bits4 (fun HT_ HW_ => ?_)
                        generalize w21.drew = w22 at BK163 HB hx166_0 hx166_1 hHeld ⊢
                        refine pz 0 12 (bs 25 1) HT_ ?_
                        refine tz 1 13 (bs 25 3) HT_ HW_ hHeld ?_
                        refine one_ (i := 2) (N := some 14) (bs 25 7) rfl rfl (one_of HT_.out (by kernel_rfl)) (by decide) (fun K hK => ?_)
                        refine goes_ Try.func65 (by kernel_rfl) rfl #[.string ((rd_T55 l0 x7_1).f0)] (by rfl) rfl rfl gA ?_
                        with_reducible refine (impl_NameOK.calls ((rd_T55 l0 x7_1).f0) true _ A5.out).mono ?_
                        rintro e w23 ⟨rfl, hb⟩
                        refine ⟨_, rfl, ?_⟩
                        have n0_ := Aside0.mk (kb BK163 hb)
                        have n1_ := Aside0.mk (below_step (w := w) bW hb)
                        clear BK163
                        clear HB
                        have BK163 := n0_
                        have HB := n1_
                        clear n0_ n1_
                        (try clear hb)
                        refine hK.out _ _ ⟨(blk_cell BK163.out 0).trans rfl, (blk_cell BK163.out 1).trans rfl, ((HB.out.cell (World.block_lt_of_cell? w _ hw166_0)).trans hw166_0), ((HB.out.cell (World.block_lt_of_cell? w _ hw166_1)).trans hw166_1)⟩ (fun hHeld => ?_)
                        clear hK K
                        refine norm_ (a' := ?_) ?_ ?_
                        rotate_left
                        · show Act.put _ (some 14) _ = _
                          simp only [Act.put, List.setIfInBounds_toArray, List.set_cons_zero, List.set_cons_succ, i64_w, i32_w]
                          rfl
                        refine pz 3 15 (bs 25 15) HT_ ?_
                        refine pz 4 16 (bs 25 31) HT_ ?_
                        refine pz 5 17 (bs 25 63) HT_ ?_
                        refine tz 6 18 (bs 25 127) HT_ HW_ hHeld ?_
                        refine one_ (i := 7) (N := some 19) (bs 25 255) rfl rfl (one_of HT_.out (by kernel_rfl)) (by decide) (fun K hK => ?_)
                        refine goes_ Try.func66 (by kernel_rfl) rfl #[.int .i64 ((rd_T55 l0 x7_1).f1)] (by rfl) rfl rfl gA ?_
                        with_reducible refine (impl_isValue.calls ((rd_T55 l0 x7_1).f1) true _ A7.out).mono ?_
                        rintro e w' ⟨rfl, ⟨nd, rfl⟩⟩
                        refine ⟨_, rfl, ?_⟩
                        refine hK.out _ _ ⟨(blk_cell BK163.out 0).trans rfl, (blk_cell BK163.out 1).trans rfl, ((HB.out.cell (World.block_lt_of_cell? w _ hw166_0)).trans hw166_0), ((HB.out.cell (World.block_lt_of_cell? w _ hw166_1)).trans hw166_1)⟩ (fun hHeld => ?_)
                        clear hK K
                        refine norm_ (a' := ?_) ?_ ?_
                        rotate_left
                        · show Act.put _ (some 19) _ = _
                          simp only [Act.put, List.setIfInBounds_toArray, List.set_cons_zero, List.set_cons_succ, i64_w, i32_w]
                          rfl
                        refine pz 8 20 (bs 25 511) HT_ ?_
                        refine pz 9 21 (bs 25 1023) HT_ ?_
                        refine pz 10 22 (bs 25 2047) HT_ ?_
                        refine pz 11 23 (bs 25 4095) HT_ ?_
                        refine pz 12 24 (bs 25 8191) HT_ ?_
                        refine pz 13 25 (bs 25 16383) HT_ ?_
                        refine pz 14 26 (bs 25 32767) HT_ ?_
                        refine pz 15 27 (bs 25 65535) HT_ ?_
                        refine pz 16 28 (bs 25 131071) HT_ ?_
                        refine pz 17 29 (bs 25 262143) HT_ ?_
                        refine pz 18 30 (bs 25 524287) HT_ ?_
                        refine pz 20 32 (bs 25 1572863) HT_ ?_
                        refine tz 19 31 (bs 25 2097151) HT_ HW_ hHeld ?_
                        refine tz 21 33 (bs 25 4194303) HT_ HW_ hHeld ?_
                        refine pz 22 34 (bs 25 8388607) HT_ ?_
                        refine pz 23 35 (bs 25 16777215) HT_ ?_
                        refine pz 24 36 (bs 25 33554431) HT_ ?_
                        refine done_ (done_of HT_.out (by kernel_rfl)) ?_
                        try go_wp2
                        go_ret
                        exact ⟨by rfl, bW⟩
                    · rw [if_neg c12] at H
                      exact absurd H (by simp)
                  · rw [if_neg c11] at H
                    exact absurd H (by simp)
                · rw [if_neg c9] at H
                  have c9b0 : decide (0 < x7_1) = false := decide_eq_false c9
                  clear c9
                  have H' := Aside0.mk H
                  clear H
                  have p162 : 0 ≤ (x7_1 : Int) := odt
                  have q162 : x7_1 < (l0.length : Int) := odt
                  obtain ⟨ad162, e162, hx162_0, hx162_1⟩ := at_T55 HR0.out x7_1 p162 q162
                  cases e162
                  replace hx162_0 := (HB.out.cell (World.block_lt_of_cell? w _ hx162_0)).trans hx162_0
                  replace hx162_1 := (HB.out.cell (World.block_lt_of_cell? w _ hx162_1)).trans hx162_1
                  replace p162 := eq_true p162
                  replace q162 := eq_true q162
                  try go_wp2_with (((with_reducible refine gate_dst (N := 4) rfl ?_); refine bE (N := 4) (cs := #[.string (⟨#[]⟩ : ByteArray), .int .i64 0]) (t := 55) ?_; intro gb163 hg w24 hbox hb; have n0_ := Aside0.mk (below_step (w := w) bW hb); have n1_ := Aside0.mk (hbox); have n2_ := Aside0.mk (gS (w := w) hg); have n3_ := n2_; clear HB; have HB := n0_; have BK163 := n1_; have GW163 := n2_; have GE163 := n3_; clear n0_ n1_ n2_ n3_; clear hb hbox hg; obtain ⟨hcz25_0, hcz25_1⟩ := cz2 BK163; obtain ⟨hfz25_0, hfz25_1⟩ := fz2 BK163))
                  have n0_ : Aside0 (((w24.setCell ⟨gb163, 0, none⟩ (.string ((rd_T55 l0 x7_1).f0))).setCell ⟨gb163, 1, none⟩ (.int .i64 ((rd_T55 l0 x7_1).f1))).heap[gb163]? = some (.cells #[.string ((rd_T55 l0 x7_1).f0), .int .i64 ((rd_T55 l0 x7_1).f1)] 55 (0, 0))) := ⟨by refine blk_put (cs := #[.string ((rd_T55 l0 x7_1).f0), .int .i64 0]) ?_ 1 _ rfl; refine blk_put (cs := #[.string (⟨#[]⟩ : ByteArray), .int .i64 0]) ?_ 0 _ rfl; exact BK163.out⟩
                  have n1_ : Aside0 (Below w.heap.size w ((w24.setCell ⟨gb163, 0, none⟩ (.string ((rd_T55 l0 x7_1).f0))).setCell ⟨gb163, 1, none⟩ (.int .i64 ((rd_T55 l0 x7_1).f1)))) := ⟨bW⟩
                  (try clear BK163)
                  (try clear HB)
                  generalize ((w24.setCell ⟨gb163, 0, none⟩ (.string ((rd_T55 l0 x7_1).f0))).setCell ⟨gb163, 1, none⟩ (.int .i64 ((rd_T55 l0 x7_1).f1))) = w26 at n0_ n1_ ⊢
                  have BK163 := n0_
                  have HB := n1_
                  clear n0_ n1_
                  have n0_ := Aside0.mk (blk_drew BK163.out)
                  have n1_ := Aside0.mk (below_drew1 HB.out)
                  clear BK163
                  clear HB
                  have BK163 := n0_
                  have HB := n1_
                  clear n0_ n1_
                  refine start_ (n := 25) (S := fun w' => w'.cell? ⟨gb163, 0, none⟩ = some (.string ((rd_T55 l0 x7_1).f0)) ∧ w'.cell? ⟨gb163, 1, none⟩ = some (.int .i64 ((rd_T55 l0 x7_1).f1))) (ds := []) (bs 25 0) (by kernel_rfl) rfl rfl ⟨(blk_cell BK163.out 0).trans rfl, (blk_cell BK163.out 1).trans rfl⟩ (fun hHeld => ?_); refine with_tabW impl_MapOK.tab4 impl_MapOK.bits4 (fun HT_ HW_ => ?_)
                  generalize w26.drew = w27 at BK163 HB hHeld ⊢
                  refine pz 0 12 (bs 25 1) HT_ ?_
                  refine tz 1 13 (bs 25 3) HT_ HW_ hHeld ?_
                  refine one_ (i := 2) (N := some 14) (bs 25 7) rfl rfl (one_of HT_.out (by kernel_rfl)) (by decide) (fun K hK => ?_)
                  refine goes_ Try.func65 (by kernel_rfl) rfl #[.string ((rd_T55 l0 x7_1).f0)] (by rfl) rfl rfl gA ?_
                  with_reducible refine (impl_NameOK.calls ((rd_T55 l0 x7_1).f0) true _ A5.out).mono ?_
                  rintro e w28 ⟨rfl, hb⟩
                  refine ⟨_, rfl, ?_⟩
                  have n0_ := Aside0.mk (kb BK163 hb)
                  have n1_ := Aside0.mk (below_step (w := w) bW hb)
                  clear BK163
                  clear HB
                  have BK163 := n0_
                  have HB := n1_
                  clear n0_ n1_
                  (try clear hb)
                  refine hK.out _ _ ⟨(blk_cell BK163.out 0).trans rfl, (blk_cell BK163.out 1).trans rfl⟩ (fun hHeld => ?_)
                  clear hK K
                  refine norm_ (a' := ?_) ?_ ?_
                  rotate_left
                  · show Act.put _ (some 14) _ = _
                    simp only [Act.put, List.setIfInBounds_toArray, List.set_cons_zero, List.set_cons_succ, i64_w, i32_w]
                    rfl
                  refine pz 3 15 (bs 25 15) HT_ ?_
                  refine pz 4 16 (bs 25 31) HT_ ?_
                  refine pz 5 17 (bs 25 63) HT_ ?_
                  refine tz 6 18 (bs 25 127) HT_ HW_ hHeld ?_
                  refine one_ (i := 7) (N := some 19) (bs 25 255) rfl rfl (one_of HT_.out (by kernel_rfl)) (by decide) (fun K hK => ?_)
                  refine goes_ Try.func66 (by kernel_rfl) rfl #[.int .i64 ((rd_T55 l0 x7_1).f1)] (by rfl) rfl rfl gA ?_
                  with_reducible refine (impl_isValue.calls ((rd_T55 l0 x7_1).f1) true _ A7.out).mono ?_
                  rintro e w' ⟨rfl, ⟨nd, rfl⟩⟩
                  refine ⟨_, rfl, ?_⟩
                  refine hK.out _ _ ⟨(blk_cell BK163.out 0).trans rfl, (blk_cell BK163.out 1).trans rfl⟩ (fun hHeld => ?_)
                  clear hK K
                  refine norm_ (a' := ?_) ?_ ?_
                  rotate_left
                  · show Act.put _ (some 19) _ = _
                    simp only [Act.put, List.setIfInBounds_toArray, List.set_cons_zero, List.set_cons_succ, i64_w, i32_w]
                    rfl
                  refine pz 8 20 (bs 25 511) HT_ ?_
                  refine pz 9 21 (bs 25 1023) HT_ ?_
                  refine pz 10 22 (bs 25 2047) HT_ ?_
                  refine pz 11 23 (bs 25 4095) HT_ ?_
                  refine pz 12 24 (bs 25 8191) HT_ ?_
                  refine pz 13 25 (bs 25 16383) HT_ ?_
                  refine uz 14 26 (bs 25 32767) HT_ ?_
                  refine uz 15 27 (bs 25 65535) HT_ ?_
                  refine uz 16 28 (bs 25 131071) HT_ ?_
                  refine uz 17 29 (bs 25 262143) HT_ ?_
                  refine uz 18 30 (bs 25 524287) HT_ ?_
                  refine uz 19 31 (bs 25 1048575) HT_ ?_
                  refine uz 20 32 (bs 25 2097151) HT_ ?_
                  refine uz 21 33 (bs 25 4194303) HT_ ?_
                  refine uz 22 34 (bs 25 8388607) HT_ ?_
                  refine pz 23 35 (bs 25 16777215) HT_ ?_
                  refine pz 24 36 (bs 25 33554431) HT_ ?_
                  refine done_ (done_of HT_.out (by kernel_rfl)) ?_
                  try go_wp2
                  go_roundg k1
                  case measure => have := HK1.out; omega
                  case rel => exact ⟨(wrap64 (x7_1 + 1)), vE, H', ⟨by have := HK1.out; omega⟩, ⟨bW⟩⟩
              · replace c8 := Bool.eq_false_iff.mpr c8
                subst c8
                have H1 : (some false) = some r := by rw [if_neg (show ¬ (false = true) by decide)] at H; exact H
                clear H
                have H := H1
                clear H1
                obtain rfl := Option.some.inj H
                have p162 : 0 ≤ (x7_1 : Int) := odt
                have q162 : x7_1 < (l0.length : Int) := odt
                obtain ⟨ad162, e162, hx162_0, hx162_1⟩ := at_T55 HR0.out x7_1 p162 q162
                cases e162
                replace hx162_0 := (HB.out.cell (World.block_lt_of_cell? w _ hx162_0)).trans hx162_0
                replace hx162_1 := (HB.out.cell (World.block_lt_of_cell? w _ hx162_1)).trans hx162_1
                replace p162 := eq_true p162
                replace q162 := eq_true q162
                try go_wp2_with (((with_reducible refine gate_dst (N := 4) rfl ?_); refine bE (N := 4) (cs := #[.string (⟨#[]⟩ : ByteArray), .int .i64 0]) (t := 55) ?_; intro gb163 hg w29 hbox hb; have n0_ := Aside0.mk (below_step (w := w) bW hb); have n1_ := Aside0.mk (hbox); have n2_ := Aside0.mk (gS (w := w) hg); have n3_ := n2_; clear HB; have HB := n0_; have BK163 := n1_; have GW163 := n2_; have GE163 := n3_; clear n0_ n1_ n2_ n3_; clear hb hbox hg; obtain ⟨hcz30_0, hcz30_1⟩ := cz2 BK163; obtain ⟨hfz30_0, hfz30_1⟩ := fz2 BK163))
                have n0_ : Aside0 (((w29.setCell ⟨gb163, 0, none⟩ (.string ((rd_T55 l0 x7_1).f0))).setCell ⟨gb163, 1, none⟩ (.int .i64 ((rd_T55 l0 x7_1).f1))).heap[gb163]? = some (.cells #[.string ((rd_T55 l0 x7_1).f0), .int .i64 ((rd_T55 l0 x7_1).f1)] 55 (0, 0))) := ⟨by refine blk_put (cs := #[.string ((rd_T55 l0 x7_1).f0), .int .i64 0]) ?_ 1 _ rfl; refine blk_put (cs := #[.string (⟨#[]⟩ : ByteArray), .int .i64 0]) ?_ 0 _ rfl; exact BK163.out⟩
                have n1_ : Aside0 (Below w.heap.size w ((w29.setCell ⟨gb163, 0, none⟩ (.string ((rd_T55 l0 x7_1).f0))).setCell ⟨gb163, 1, none⟩ (.int .i64 ((rd_T55 l0 x7_1).f1)))) := ⟨bW⟩
                (try clear BK163)
                (try clear HB)
                generalize ((w29.setCell ⟨gb163, 0, none⟩ (.string ((rd_T55 l0 x7_1).f0))).setCell ⟨gb163, 1, none⟩ (.int .i64 ((rd_T55 l0 x7_1).f1))) = w31 at n0_ n1_ ⊢
                have BK163 := n0_
                have HB := n1_
                clear n0_ n1_
                have n0_ := Aside0.mk (blk_drew BK163.out)
                have n1_ := Aside0.mk (below_drew1 HB.out)
                clear BK163
                clear HB
                have BK163 := n0_
                have HB := n1_
                clear n0_ n1_
                refine start_ (n := 25) (S := fun w' => w'.cell? ⟨gb163, 0, none⟩ = some (.string ((rd_T55 l0 x7_1).f0)) ∧ w'.cell? ⟨gb163, 1, none⟩ = some (.int .i64 ((rd_T55 l0 x7_1).f1))) (ds := []) (bs 25 0) (by kernel_rfl) rfl rfl ⟨(blk_cell BK163.out 0).trans rfl, (blk_cell BK163.out 1).trans rfl⟩ (fun hHeld => ?_); refine with_tabW impl_MapOK.tab4 impl_MapOK.bits4 (fun HT_ HW_ => ?_)
                generalize w31.drew = w32 at BK163 HB hHeld ⊢
                refine pz 0 12 (bs 25 1) HT_ ?_
                refine tz 1 13 (bs 25 3) HT_ HW_ hHeld ?_
                refine one_ (i := 2) (N := some 14) (bs 25 7) rfl rfl (one_of HT_.out (by kernel_rfl)) (by decide) (fun K hK => ?_)
                refine goes_ Try.func65 (by kernel_rfl) rfl #[.string ((rd_T55 l0 x7_1).f0)] (by rfl) rfl rfl gA ?_
                with_reducible refine (impl_NameOK.calls ((rd_T55 l0 x7_1).f0) true _ A5.out).mono ?_
                rintro e w33 ⟨rfl, hb⟩
                refine ⟨_, rfl, ?_⟩
                have n0_ := Aside0.mk (kb BK163 hb)
                have n1_ := Aside0.mk (below_step (w := w) bW hb)
                clear BK163
                clear HB
                have BK163 := n0_
                have HB := n1_
                clear n0_ n1_
                (try clear hb)
                refine hK.out _ _ ⟨(blk_cell BK163.out 0).trans rfl, (blk_cell BK163.out 1).trans rfl⟩ (fun hHeld => ?_)
                clear hK K
                refine norm_ (a' := ?_) ?_ ?_
                rotate_left
                · show Act.put _ (some 14) _ = _
                  simp only [Act.put, List.setIfInBounds_toArray, List.set_cons_zero, List.set_cons_succ, i64_w, i32_w]
                  rfl
                refine pz 3 15 (bs 25 15) HT_ ?_
                refine pz 4 16 (bs 25 31) HT_ ?_
                refine pz 5 17 (bs 25 63) HT_ ?_
                refine tz 6 18 (bs 25 127) HT_ HW_ hHeld ?_
                refine one_ (i := 7) (N := some 19) (bs 25 255) rfl rfl (one_of HT_.out (by kernel_rfl)) (by decide) (fun K hK => ?_)
                refine goes_ Try.func66 (by kernel_rfl) rfl #[.int .i64 ((rd_T55 l0 x7_1).f1)] (by rfl) rfl rfl gA ?_
                with_reducible refine (impl_isValue.calls ((rd_T55 l0 x7_1).f1) false _ A7.out).mono ?_
                rintro e w' ⟨rfl, ⟨nd, rfl⟩⟩
                refine ⟨_, rfl, ?_⟩
                refine hK.out _ _ ⟨(blk_cell BK163.out 0).trans rfl, (blk_cell BK163.out 1).trans rfl⟩ (fun hHeld => ?_)
                clear hK K
                refine norm_ (a' := ?_) ?_ ?_
                rotate_left
                · show Act.put _ (some 19) _ = _
                  simp only [Act.put, List.setIfInBounds_toArray, List.set_cons_zero, List.set_cons_succ, i64_w, i32_w]
                  rfl
                refine pz 8 20 (bs 25 511) HT_ ?_
                refine pz 9 21 (bs 25 1023) HT_ ?_
                refine pz 10 22 (bs 25 2047) HT_ ?_
                refine uz 11 23 (bs 25 4095) HT_ ?_
                refine uz 12 24 (bs 25 8191) HT_ ?_
                refine uz 13 25 (bs 25 16383) HT_ ?_
                refine uz 14 26 (bs 25 32767) HT_ ?_
                refine uz 15 27 (bs 25 65535) HT_ ?_
                refine uz 16 28 (bs 25 131071) HT_ ?_
                refine uz 17 29 (bs 25 262143) HT_ ?_
                refine uz 18 30 (bs 25 524287) HT_ ?_
                refine uz 19 31 (bs 25 1048575) HT_ ?_
                refine uz 20 32 (bs 25 2097151) HT_ ?_
                refine uz 21 33 (bs 25 4194303) HT_ ?_
                refine uz 22 34 (bs 25 8388607) HT_ ?_
                refine uz 23 35 (bs 25 16777215) HT_ ?_
                refine pz 24 36 (bs 25 33554431) HT_ ?_
                refine done_ (done_of HT_.out (by kernel_rfl)) ?_
                try go_wp2
                go_ret
                exact ⟨rE, bW⟩
            · replace c6 := Bool.eq_false_iff.mpr c6
              subst c6
              have H1 : (some false) = some r := by rw [if_neg (show ¬ (false = true) by decide)] at H; exact H
              clear H
              have H := H1
              clear H1
              obtain rfl := Option.some.inj H
              have p162 : 0 ≤ (x7_1 : Int) := odt
              have q162 : x7_1 < (l0.length : Int) := odt
              obtain ⟨ad162, e162, hx162_0, hx162_1⟩ := at_T55 HR0.out x7_1 p162 q162
              cases e162
              replace hx162_0 := (HB.out.cell (World.block_lt_of_cell? w _ hx162_0)).trans hx162_0
              replace hx162_1 := (HB.out.cell (World.block_lt_of_cell? w _ hx162_1)).trans hx162_1
              replace p162 := eq_true p162
              replace q162 := eq_true q162
              try go_wp2_with (((with_reducible refine gate_dst (N := 4) rfl ?_); refine bE (N := 4) (cs := #[.string (⟨#[]⟩ : ByteArray), .int .i64 0]) (t := 55) ?_; intro gb163 hg w34 hbox hb; have n0_ := Aside0.mk (below_step (w := w) bW hb); have n1_ := Aside0.mk (hbox); have n2_ := Aside0.mk (gS (w := w) hg); have n3_ := n2_; clear HB; have HB := n0_; have BK163 := n1_; have GW163 := n2_; have GE163 := n3_; clear n0_ n1_ n2_ n3_; clear hb hbox hg; obtain ⟨hcz35_0, hcz35_1⟩ := cz2 BK163; obtain ⟨hfz35_0, hfz35_1⟩ := fz2 BK163))
              have n0_ : Aside0 (((w34.setCell ⟨gb163, 0, none⟩ (.string ((rd_T55 l0 x7_1).f0))).setCell ⟨gb163, 1, none⟩ (.int .i64 ((rd_T55 l0 x7_1).f1))).heap[gb163]? = some (.cells #[.string ((rd_T55 l0 x7_1).f0), .int .i64 ((rd_T55 l0 x7_1).f1)] 55 (0, 0))) := ⟨by refine blk_put (cs := #[.string ((rd_T55 l0 x7_1).f0), .int .i64 0]) ?_ 1 _ rfl; refine blk_put (cs := #[.string (⟨#[]⟩ : ByteArray), .int .i64 0]) ?_ 0 _ rfl; exact BK163.out⟩
              have n1_ : Aside0 (Below w.heap.size w ((w34.setCell ⟨gb163, 0, none⟩ (.string ((rd_T55 l0 x7_1).f0))).setCell ⟨gb163, 1, none⟩ (.int .i64 ((rd_T55 l0 x7_1).f1)))) := ⟨bW⟩
              (try clear BK163)
              (try clear HB)
              generalize ((w34.setCell ⟨gb163, 0, none⟩ (.string ((rd_T55 l0 x7_1).f0))).setCell ⟨gb163, 1, none⟩ (.int .i64 ((rd_T55 l0 x7_1).f1))) = w36 at n0_ n1_ ⊢
              have BK163 := n0_
              have HB := n1_
              clear n0_ n1_
              have n0_ := Aside0.mk (blk_drew BK163.out)
              have n1_ := Aside0.mk (below_drew1 HB.out)
              clear BK163
              clear HB
              have BK163 := n0_
              have HB := n1_
              clear n0_ n1_
              refine start_ (n := 25) (S := fun w' => w'.cell? ⟨gb163, 0, none⟩ = some (.string ((rd_T55 l0 x7_1).f0)) ∧ w'.cell? ⟨gb163, 1, none⟩ = some (.int .i64 ((rd_T55 l0 x7_1).f1))) (ds := []) (bs 25 0) (by kernel_rfl) rfl rfl ⟨(blk_cell BK163.out 0).trans rfl, (blk_cell BK163.out 1).trans rfl⟩ (fun hHeld => ?_); refine with_tabW impl_MapOK.tab4 impl_MapOK.bits4 (fun HT_ HW_ => ?_)
              generalize w36.drew = w37 at BK163 HB hHeld ⊢
              refine pz 0 12 (bs 25 1) HT_ ?_
              refine tz 1 13 (bs 25 3) HT_ HW_ hHeld ?_
              refine one_ (i := 2) (N := some 14) (bs 25 7) rfl rfl (one_of HT_.out (by kernel_rfl)) (by decide) (fun K hK => ?_)
              refine goes_ Try.func65 (by kernel_rfl) rfl #[.string ((rd_T55 l0 x7_1).f0)] (by rfl) rfl rfl gA ?_
              with_reducible refine (impl_NameOK.calls ((rd_T55 l0 x7_1).f0) false _ A5.out).mono ?_
              rintro e w38 ⟨rfl, hb⟩
              refine ⟨_, rfl, ?_⟩
              have n0_ := Aside0.mk (kb BK163 hb)
              have n1_ := Aside0.mk (below_step (w := w) bW hb)
              clear BK163
              clear HB
              have BK163 := n0_
              have HB := n1_
              clear n0_ n1_
              (try clear hb)
              refine hK.out _ _ ⟨(blk_cell BK163.out 0).trans rfl, (blk_cell BK163.out 1).trans rfl⟩ (fun hHeld => ?_)
              clear hK K
              refine norm_ (a' := ?_) ?_ ?_
              rotate_left
              · show Act.put _ (some 14) _ = _
                simp only [Act.put, List.setIfInBounds_toArray, List.set_cons_zero, List.set_cons_succ, i64_w, i32_w]
                rfl
              refine pz 3 15 (bs 25 15) HT_ ?_
              refine pz 4 16 (bs 25 31) HT_ ?_
              refine uz 5 17 (bs 25 63) HT_ ?_
              refine uz 6 18 (bs 25 127) HT_ ?_
              refine uz 7 19 (bs 25 255) HT_ ?_
              refine uz 8 20 (bs 25 511) HT_ ?_
              refine pz 9 21 (bs 25 1023) HT_ ?_
              refine pz 10 22 (bs 25 2047) HT_ ?_
              refine uz 11 23 (bs 25 4095) HT_ ?_
              refine uz 12 24 (bs 25 8191) HT_ ?_
              refine uz 13 25 (bs 25 16383) HT_ ?_
              refine uz 14 26 (bs 25 32767) HT_ ?_
              refine uz 15 27 (bs 25 65535) HT_ ?_
              refine uz 16 28 (bs 25 131071) HT_ ?_
              refine uz 17 29 (bs 25 262143) HT_ ?_
              refine uz 18 30 (bs 25 524287) HT_ ?_
              refine uz 19 31 (bs 25 1048575) HT_ ?_
              refine uz 20 32 (bs 25 2097151) HT_ ?_
              refine uz 21 33 (bs 25 4194303) HT_ ?_
              refine uz 22 34 (bs 25 8388607) HT_ ?_
              refine uz 23 35 (bs 25 16777215) HT_ ?_
              refine pz 24 36 (bs 25 33554431) HT_ ?_
              refine done_ (done_of HT_.out (by kernel_rfl)) ?_
              try go_wp2
              go_ret
              exact ⟨rE, bW⟩
          · rw [if_neg c4] at H
            exact absurd H (by simp)
        · rw [if_neg c3] at H
          exact absurd H (by simp)
      · rw [if_neg c2] at H
        have c2b0 : decide (x7_1 < (l0.length : Int)) = false := decide_eq_false c2
        clear c2
        obtain rfl := Option.some.inj H
        go_wp2
        go_ret
        exact ⟨rE, bW⟩
end Go.Proofs.Ytblejbgkcgajgaa.Q
end

section
namespace Go.Proofs.Ytblejbgkcgajgaa.Q
open Go.RowKit Go.Proofs.YtblejbgkcgajgaaW.PrintWords Go.Proofs.YtblejbgkcgajgaaW.PrintLast Go.Proofs.YtblejbgkcgajgaaW.PrintMore
attribute [local go_sem] max2_int min2_int max_two min_two max_three min_three max_four min_four   -- for this text's walks alone
set_option linter.unusedVariables false
set_option linter.unusedSimpArgs false
attribute [local go_sem] bin_leq bin_gtr bin_geq
theorem cmp_lt : ∀ (a b : List UInt8), (Lib.compareBytes a b < 0) ↔ Op.bytesLess a b = true
  | [], [] => by simp [Lib.compareBytes, Op.bytesLess]
  | [], _ :: _ => by simp [Lib.compareBytes, Op.bytesLess]
  | _ :: _, [] => by simp [Lib.compareBytes, Op.bytesLess]
  | a :: ra, b :: rb => by
    have ih := cmp_lt ra rb
    unfold Lib.compareBytes
    by_cases h1 : a < b
    · simp [h1, Op.bytesLess]
    · by_cases h2 : b < a
      · have h3 : ¬ a = b := by rintro rfl; exact h1 h2
        simp [h1, h2, h3, Op.bytesLess]
      · have h3 : a = b := UInt8.le_antisymm (UInt8.not_lt.mp h2) (UInt8.not_lt.mp h1)
        subst h3
        simp [h1, Op.bytesLess, ih]
theorem cmp_eq : ∀ (a b : List UInt8), (Lib.compareBytes a b = 0) ↔ a = b
  | [], [] => by simp [Lib.compareBytes]
  | [], _ :: _ => by simp [Lib.compareBytes]
  | _ :: _, [] => by simp [Lib.compareBytes]
  | a :: ra, b :: rb => by
    have ih := cmp_eq ra rb
    unfold Lib.compareBytes
    by_cases h1 : a < b
    · have h3 : ¬ a = b := by rintro rfl; exact absurd h1 (UInt8.lt_irrefl _)
      simp [h1, h3]
    · by_cases h2 : b < a
      · have h3 : ¬ a = b := by rintro rfl; exact h1 h2
        simp [h1, h2, h3]
      · have h3 : a = b := UInt8.le_antisymm (UInt8.not_lt.mp h2) (UInt8.not_lt.mp h1)
        subst h3
        simp [h1, ih]
def cmpB (a b : ByteArray) : Int := Lib.compareBytes a.data.toList b.data.toList
end Go.Proofs.Ytblejbgkcgajgaa.Q
end

section
namespace Go.Proofs.Ytblejbgkcgajgaa.Q
open Go.RowKit Go.Proofs.YtblejbgkcgajgaaW.PrintWords Go.Proofs.YtblejbgkcgajgaaW.PrintLast Go.Proofs.YtblejbgkcgajgaaW.PrintMore
attribute [local go_sem] max2_int min2_int max_two min_two max_three min_three max_four min_four   -- for this text's walks alone
set_option linter.unusedVariables false
set_option linter.unusedSimpArgs false
attribute [local go_sem] bin_leq bin_gtr bin_geq
def bytealg_CompareString.f (a0 : ByteArray) (a1 : ByteArray) : Option (Int) := some (cmpB a0 a1)
set_option maxHeartbeats 1000000 in
set_option maxRecDepth 100000 in
theorem bytealg_CompareString.calls (a0 : ByteArray) (a1 : ByteArray) (r : Int) (w : World) (h : bytealg_CompareString.f a0 a1 = some r) :
    Calls Try.prog 78 #[.string a0, .string a1] w fun e w' => e = .returned (.int .i64 r) ∧ Drawn0 w w' := by
  obtain rfl := Option.some.inj h
  clear h
  go_enter Try.func78, Try.ntmps78
  go_wp2
  rw [run_callFunc_extern Try.func97 (by kernel_rfl) (by kernel_rfl) (by kernel_rfl) (e := Extern.BytealgCompare.compare) (by kernel_rfl), Lib.run_compareString]
  simp only [Result.andThen]
  rw [Oper.upon_value]
  go_wp2
  go_ret
  exact ⟨rfl, Drawn0.refl _⟩
end Go.Proofs.Ytblejbgkcgajgaa.Q
end

section
namespace Go.Proofs.Ytblejbgkcgajgaa.Q
open Go.RowKit Go.Proofs.YtblejbgkcgajgaaW.PrintWords Go.Proofs.YtblejbgkcgajgaaW.PrintLast Go.Proofs.YtblejbgkcgajgaaW.PrintMore
attribute [local go_sem] max2_int min2_int max_two min_two max_three min_three max_four min_four   -- for this text's walks alone
set_option linter.unusedVariables false
set_option linter.unusedSimpArgs false
attribute [local go_sem] bin_leq bin_gtr bin_geq
def strings_Compare.f (a0 : ByteArray) (a1 : ByteArray) : Option (Int) := (bytealg_CompareString.f a0 a1).bind fun t174 => (some t174)
set_option maxHeartbeats 8000000 in
set_option maxRecDepth 100000 in
theorem strings_Compare.calls (a0 : ByteArray) (a1 : ByteArray) (r : Int) (w : World) (h : strings_Compare.f a0 a1 = some r) :
    Calls Try.prog 60 #[.string a0, .string a1] w fun e w' => e = .returned (.int .i64 r) ∧ Drawn0 w w' := by
  have H : ((bytealg_CompareString.f a0 a1).bind fun t174 => (some t174)) = some r := h
  clear h
  replace H := Option.bind_eq_some_iff.mp H
  obtain ⟨t174, A30, H⟩ := H
  replace H : (some t174) = some r := H
  have A3 := Aside0.mk A30
  clear A30
  obtain rfl := Option.some.inj H
  go_enter Try.func60, Try.ntmps60
  go_wp2_with (first | ((with_reducible refine gate_callee (f := 78) rfl ?_); refine goesL_ (some 7) rfl rfl Try.func78 (by kernel_rfl) rfl #[.string a0, .string a1] rfl gA ?_; (with_reducible refine (bytealg_CompareString.calls a0 a1 t174 _ A3.out).mono ?_); rintro e w' ⟨rfl, ⟨nd, rfl⟩⟩; refine ⟨_, rfl, ?_⟩))
  go_ret
  exact ⟨by first | rfl | (simp; done) | (simp [*]; done), by repeat (first | exact Drawn0.refl _ | apply Drawn0.step)⟩
end Go.Proofs.Ytblejbgkcgajgaa.Q
end

section
namespace Go.Proofs.Ytblejbgkcgajgaa.Q
open Go.RowKit Go.Proofs.YtblejbgkcgajgaaW.PrintWords Go.Proofs.YtblejbgkcgajgaaW.PrintLast Go.Proofs.YtblejbgkcgajgaaW.PrintMore
attribute [local go_sem] max2_int min2_int max_two min_two max_three min_three max_four min_four   -- for this text's walks alone
set_option linter.unusedVariables false
set_option linter.unusedSimpArgs false
attribute [local go_sem] bin_leq bin_gtr bin_geq
def Cmps_Entry (g : Nat) (lb : Array Value) (tv : Value) (c : S55 → Int) (w : World) (l : List S55) : Prop :=
  ∀ (W : World) (x : S55), Below w.heap.size w W → x ∈ l → Calls Try.prog g (#[.agg #[.string x.f0, .int .i64 x.f1], tv] ++ lb) W fun e w' => e = .returned (.int .i64 (c x)) ∧ Below W.heap.size W w'
def cntN (c : S55 → Int) (l : List S55) : Nat := l.countP (fun x => decide (c x < 0))
def fndB (c : S55 → Int) (l : List S55) : Bool := match l[cntN c l]? with | some x => c x == 0 | none => false
theorem cntN_is {c : S55 → Int} : ∀ (l : List S55) (i : Nat), i ≤ l.length → (∀ t (ht : t < l.length), t < i → c l[t] < 0) → (∀ t (ht : t < l.length), i ≤ t → 0 ≤ c l[t]) → cntN c l = i
  | [], i, hi, _, _ => by
    have : i = 0 := by simpa using hi
    rw [this]; rfl
  | a :: r, 0, _, _, h2 => by
    unfold cntN
    rw [List.countP_eq_zero]
    intro x hx
    obtain ⟨t, ht, rfl⟩ := List.getElem_of_mem hx
    have := h2 t ht (Nat.zero_le _)
    simp; omega
  | a :: r, i + 1, hi, h1, h2 => by
    have ha : decide (c a < 0) = true := decide_eq_true (h1 0 (by simp) (by omega))
    have ih := cntN_is r i (by simpa using hi) (fun t ht h => h1 (t + 1) (by simp; omega) (by omega)) (fun t ht h => h2 (t + 1) (by simp; omega) (by omega))
    unfold cntN at ih ⊢
    rw [List.countP_cons_of_pos (p := fun x => decide (c x < 0)) ha, ih]
set_option maxHeartbeats 4000000 in
set_option maxRecDepth 1000000 in
theorem bsF_Entry (g : Nat) (lb : Array Value) (eg : ∀ args w, (callFunc g args).run Try.prog w = .ok (.enter g args) w) (tv : Value) (c : S55 → Int) (A0 : Option Addr) (c0 : Nat) (l0 : List S55) (w : World) (hr0 : Kd.C k55 w A0 l0.length l0) (hc0 : l0.length ≤ c0) (hp : Cmps_Entry g lb tv c w l0)
    (hsz : l0.length < 4611686018427387904) (hmono : ∀ a b (hb : b < l0.length) (hab : a ≤ b), c l0[b] < 0 → c (l0[a]'(by omega)) < 0) :
    Calls Try.prog 74 #[.slice A0 l0.length c0, tv, .func (.func g) #[] lb] w fun e w' => e = .returned (.tuple #[.int .i64 (cntN c l0 : Nat), .bool (fndB c l0)]) ∧ Below w.heap.size w w' := by
  have HR0 := Aside0.mk hr0
  have HP := Aside0.mk hp
  have M := Aside0.mk hmono
  clear hr0 hc0 hp hmono
  go_enter Try.func74, Try.ntmps74
  go_wp2
  go_loopg [9, 10] l0.length (fun kx s9 s10 w' => ∃ lo hi : Nat, s9 = .int .i64 lo ∧ s10 = .int .i64 hi ∧ lo ≤ hi ∧ hi ≤ l0.length ∧ hi - lo ≤ kx ∧ Aside0 (Below w.heap.size w w') ∧
    Aside0 ((∀ t (ht : t < l0.length), t < lo → c l0[t] < 0) ∧ (∀ t (ht : t < l0.length), hi ≤ t → 0 ≤ c l0[t])))
  case atStart => exact ⟨0, l0.length, rfl, rfl, Nat.zero_le _, Nat.le_refl _, by omega, ⟨Below.refl _ _⟩, ⟨⟨fun t ht h => absurd h (Nat.not_lt_zero _), fun t ht h => by omega⟩⟩⟩
  case round =>
    obtain ⟨lo, hi, rfl, rfl, hlh, hin, hg, HB, I⟩ := hrel
    by_cases hlt : lo < hi
    · have HRW := Aside0.mk (Kd.C_below HR0.out HB.out)
      have hm : (lo + hi) / 2 < l0.length := by omega
      have p0 : (0 : Int) ≤ ((lo : Int) + (hi : Int)) / 2 := by omega
      have p1 : ((lo : Int) + (hi : Int)) / 2 < (l0.length : Int) := by omega
      have em : (((lo : Int) + (hi : Int)) / 2).toNat = (lo + hi) / 2 := by omega
      obtain ⟨ad, e1, hx0, hx1⟩ := at_T55 HRW.out (((lo : Int) + (hi : Int)) / 2) p0 p1
      cases e1
      have ex : rd_T55 l0 (((lo : Int) + (hi : Int)) / 2) = l0[(lo + hi) / 2] := by unfold rd_T55; rw [em]; simp [List.getD_eq_getElem?_getD, List.getElem?_eq_getElem hm]
      rw [ex, em] at hx0 hx1
      have hcall := HP.out _ l0[(lo + hi) / 2] HB.out (List.getElem_mem hm)
      obtain ⟨y, hy⟩ : ∃ y, y = l0[(lo + hi) / 2] := ⟨_, rfl⟩
      rw [← hy] at hx0 hx1 hcall
      have HY := Aside0.mk hy
      clear hy ex em
      have HC := Aside0.mk hcall
      clear hcall
      by_cases hyx : c y < 0
      · go_wp2_with ((with_reducible refine HC.out.mono ?_); rintro e w' ⟨rfl, hb'⟩)
        go_roundg (hi - ((lo + hi) / 2 + 1))
        case measure => omega
        case rel =>
          refine ⟨(lo + hi) / 2 + 1, hi, by go_num, rfl, by omega, hin, Nat.le_refl _, ⟨below_then HB.out HB.out.size hb'⟩, ⟨⟨fun t ht h => ?_, I.out.2⟩⟩⟩
          exact M.out t ((lo + hi) / 2) hm (by omega) (by rw [← HY.out]; exact hyx)
      · have hyx' : 0 ≤ c y := by omega
        go_wp2_with ((with_reducible refine HC.out.mono ?_); rintro e w' ⟨rfl, hb'⟩)
        go_roundg ((lo + hi) / 2 - lo)
        case measure => omega
        case rel =>
          refine ⟨lo, (lo + hi) / 2, rfl, by go_num, by omega, by omega, Nat.le_refl _, ⟨below_then HB.out HB.out.size hb'⟩, ⟨⟨I.out.1, fun t ht h => ?_⟩⟩⟩
          rcases Int.lt_or_le (c l0[t]) 0 with h3 | h3
          · have := M.out ((lo + hi) / 2) t ht h h3
            rw [← HY.out] at this
            omega
          · exact h3
    · obtain rfl : lo = hi := by omega
      have CN := Aside0.mk (cntN_is l0 lo hin I.out.1 I.out.2)
      by_cases hlen : lo < l0.length
      · have HRW := Aside0.mk (Kd.C_below HR0.out HB.out)
        have p1 : (lo : Int) < (l0.length : Int) := by omega
        have p0 : (0 : Int) ≤ (lo : Int) := by omega
        obtain ⟨ad, e1, hx0, hx1⟩ := at_T55 HRW.out (lo : Int) p0 p1
        cases e1
        have ex : rd_T55 l0 (lo : Int) = l0[lo] := by simp [rd_T55, List.getD_eq_getElem?_getD, List.getElem?_eq_getElem hlen]
        rw [ex] at hx0 hx1
        simp only [Int.toNat_natCast] at hx0 hx1
        have hcall := HP.out _ l0[lo] HB.out (List.getElem_mem hlen)
        have FN := Aside0.mk (show fndB c l0 = (c l0[lo] == 0) by unfold fndB; rw [CN.out, List.getElem?_eq_getElem hlen])
        obtain ⟨y, hy⟩ : ∃ y, y = l0[lo] := ⟨_, rfl⟩
        rw [← hy] at hx0 hx1 hcall
        have FN2 := Aside0.mk (show fndB c l0 = (c y == 0) by rw [FN.out, hy])
        clear hy ex FN
        have HC := Aside0.mk hcall
        clear hcall
        go_wp2_with ((with_reducible refine HC.out.mono ?_); rintro e w' ⟨rfl, hb'⟩)
        go_ret2
        exact ⟨by rw [CN.out, FN2.out]; rfl, below_then HB.out HB.out.size hb'⟩
      · obtain rfl : lo = l0.length := by omega
        have FN := Aside0.mk (show fndB c l0 = false by unfold fndB; rw [CN.out, List.getElem?_eq_none (Nat.le_refl _)])
        go_wp2
        go_ret2
        exact ⟨by rw [CN.out, FN.out]; rfl, HB.out⟩
end Go.Proofs.Ytblejbgkcgajgaa.Q
end

section
namespace Go.Proofs.Ytblejbgkcgajgaa.Q
open Go.RowKit Go.Proofs.YtblejbgkcgajgaaW.PrintWords Go.Proofs.YtblejbgkcgajgaaW.PrintLast Go.Proofs.YtblejbgkcgajgaaW.PrintMore
attribute [local go_sem] max2_int min2_int max_two min_two max_three min_three max_four min_four   -- for this text's walks alone
set_option linter.unusedVariables false
set_option linter.unusedSimpArgs false
attribute [local go_sem] bin_leq bin_gtr bin_geq
def RiseP (l : List S55) : Prop := l.Pairwise (fun a b => sblt a.f0 b.f0 = true)
instance (l : List S55) : Decidable (RiseP l) := by unfold RiseP; infer_instance
def cmpK (k : ByteArray) (x : S55) : Int := cmpB x.f0 k
theorem cmpK_lt (k : ByteArray) (x : S55) : cmpK k x < 0 ↔ sblt x.f0 k = true := by
  unfold cmpK cmpB sblt
  rw [cmp_lt, ByteArray.toList_eq, ByteArray.toList_eq]
theorem cmpK_mono {l : List S55} (h : RiseP l) (k : ByteArray) : ∀ a b (hb : b < l.length) (hab : a ≤ b), cmpK k l[b] < 0 → cmpK k (l[a]'(by omega)) < 0 := by
  intro a b hb hab h1
  rw [cmpK_lt] at h1 ⊢
  rcases Nat.lt_or_eq_of_le hab with h2 | h2
  · exact sblt_trans (List.pairwise_iff_getElem.mp h a b (by omega) hb h2) h1
  · subst h2; exact h1
end Go.Proofs.Ytblejbgkcgajgaa.Q
end

section
namespace Go.Proofs.Ytblejbgkcgajgaa.Q
open Go.RowKit Go.Proofs.YtblejbgkcgajgaaW.PrintWords Go.Proofs.YtblejbgkcgajgaaW.PrintLast Go.Proofs.YtblejbgkcgajgaaW.PrintMore
attribute [local go_sem] max2_int min2_int max_two min_two max_three min_three max_four min_four   -- for this text's walks alone
set_option linter.unusedVariables false
set_option linter.unusedSimpArgs false
attribute [local go_sem] bin_leq bin_gtr bin_geq
def bs_find.f (l0 : List (S55)) (a1 : ByteArray) : Option (Int × Bool) := if RiseP l0 then (if l0.length < 4611686018427387904 then some ((cntN (cmpK a1) l0 : Nat), fndB (cmpK a1) l0) else none) else none
theorem find_asks (k : ByteArray) (l : List S55) (w : World) : Cmps_Entry 75 #[] (.string k) (cmpK k) w l := by
  intro W x hW hx
  have HBA := Aside0.mk (show Below W.heap.size W (W.alloc (.cells #[.string x.f0, .int .i64 x.f1] 55)) from (Below.refl _ _).alloc (Nat.le_refl _) _)
  have A2 := Aside0.mk (show strings_Compare.f x.f0 k = some (cmpK k x) from rfl)
  clear hx hW
  go_enter Try.func75, Try.ntmps75
  go_wp2_with (go_at_call 60; (with_reducible refine (strings_Compare.calls _ _ _ _ A2.out).mono ?_); rintro e w' ⟨rfl, ⟨n, rfl⟩⟩)
  go_ret
  exact ⟨rfl, by repeat (first | exact HBA.out | apply pw_below_drewN)⟩
theorem bs_find.calls (A0 : Option Addr) (c0 : Nat) (l0 : List (S55)) (a1 : ByteArray) (r1 : Int) (r2 : Bool) (w : World) (hr0 : Kd.C k55 w A0 l0.length l0) (hc0 : l0.length ≤ c0) (h : bs_find.f l0 a1 = some (r1, r2)) :
    Calls Try.prog 74 #[.slice A0 l0.length c0, .string a1, .func (.func 75) #[] #[]] w fun e w' => e = .returned (.tuple #[.int .i64 r1, .bool r2]) ∧ Below w.heap.size w w' := by
  unfold bs_find.f at h
  by_cases h0 : RiseP l0
  · rw [if_pos h0] at h
    by_cases h1 : l0.length < 4611686018427387904
    · rw [if_pos h1] at h
      have e := Option.some.inj h
      obtain rfl : _ = r1 := congrArg Prod.fst e
      obtain rfl : _ = r2 := congrArg Prod.snd e
      exact bsF_Entry 75 #[] (enters_ Try.func75 (by kernel_rfl) rfl) (.string a1) (cmpK a1) A0 c0 l0 w hr0 hc0 (find_asks a1 l0 w) h1 (cmpK_mono h0 a1)
    · rw [if_neg h1] at h
      cases h
  · rw [if_neg h0] at h
    cases h
end Go.Proofs.Ytblejbgkcgajgaa.Q
end

section
namespace Go.Proofs.Ytblejbgkcgajgaa.Q
open Go.RowKit Go.Proofs.YtblejbgkcgajgaaW.PrintWords Go.Proofs.YtblejbgkcgajgaaW.PrintLast Go.Proofs.YtblejbgkcgajgaaW.PrintMore
attribute [local go_sem] max2_int min2_int max_two min_two max_three min_three max_four min_four   -- for this text's walks alone
set_option linter.unusedVariables false
set_option linter.unusedSimpArgs false
attribute [local go_sem] bin_leq bin_gtr bin_geq
def impl_find.f (l0 : List (S55)) (a1 : ByteArray) : Option (Int × Bool) := (bs_find.f l0 a1).bind fun bt175 => (some (bt175.1, bt175.2))
set_option maxHeartbeats 8000000 in
set_option maxRecDepth 100000 in
theorem impl_find.calls (A0 : Option Addr) (c0 : Nat) (l0 : List (S55)) (a1 : ByteArray) (r1 : Int) (r2 : Bool) (w : World) (hr0 : Kd.C k55 w A0 l0.length l0) (hc0 : l0.length ≤ c0) (h : impl_find.f l0 a1 = some (r1, r2)) :
    Calls Try.prog 57 #[.slice A0 l0.length c0, .string a1] w fun e w' => e = .returned (.tuple #[.int .i64 r1, .bool r2]) ∧ Below w.heap.size w w' := by
  have HR0 := Aside0.mk hr0
  have HC0 := Aside0.mk hc0
  clear hr0 hc0
  have HB := Aside0.mk (Below.refl w.heap.size w)
  have H : ((bs_find.f l0 a1).bind fun bt175 => (some (bt175.1, bt175.2))) = some (r1, r2) := h
  clear h
  replace H := Option.bind_eq_some_iff.mp H
  obtain ⟨⟨t175, t176⟩, A30, H⟩ := H
  replace H : (some (t175, t176)) = some (r1, r2) := H
  have A3 := Aside0.mk A30
  clear A30
  simp only [Option.some.injEq, Prod.mk.injEq] at H
  obtain ⟨rfl, rfl⟩ := H
  go_enter Try.func57, Try.ntmps57
  go_wp2_with (first | ((with_reducible refine gate_callee (f := 74) rfl ?_); refine goesL_ (some 8) rfl rfl Try.func74 (by kernel_rfl) rfl #[.slice A0 l0.length c0, .string a1, .func (.func 75) #[] #[]] rfl gA ?_; (with_reducible refine (bs_find.calls _ _ l0 a1 t175 t176 _ ?side1 ?side2 A3.out).mono ?_); (case side1 => exact cN HR0); (case side2 => exact HC0.out); rintro e w4 ⟨rfl, hb⟩; refine ⟨_, rfl, ?_⟩; have n0_ := Aside0.mk (below_step (w := w) bW hb); clear HB; have HB := n0_; clear n0_; (try clear hb); (try clear hb2); (try clear hk); (try clear hi)))
  go_ret2
  exact ⟨rE, bW⟩
end Go.Proofs.Ytblejbgkcgajgaa.Q
end

section
namespace Go.Proofs.Ytblejbgkcgajgaa.Q
open Go.RowKit Go.Proofs.YtblejbgkcgajgaaW.PrintWords Go.Proofs.YtblejbgkcgajgaaW.PrintLast Go.Proofs.YtblejbgkcgajgaaW.PrintMore
attribute [local go_sem] max2_int min2_int max_two min_two max_three min_three max_four min_four   -- for this text's walks alone
set_option linter.unusedVariables false
set_option linter.unusedSimpArgs false
attribute [local go_sem] bin_leq bin_gtr bin_geq
theorem eqnil_ {P : Program} (w : World) (t e : TypeId) (a : Option Addr) (n c : Nat) (h : P.underlying t = some (.slice e)) : (binOp .eql t (.slice a n c) (.slice none 0 0)).run P w = .ok (.bool a.isNone) w := Lib.run_eql_slice_nil w t e a n c 0 0 h
end Go.Proofs.Ytblejbgkcgajgaa.Q
end

section
namespace Go.Proofs.Ytblejbgkcgajgaa.Q
open Go.RowKit Go.Proofs.YtblejbgkcgajgaaW.PrintWords Go.Proofs.YtblejbgkcgajgaaW.PrintLast Go.Proofs.YtblejbgkcgajgaaW.PrintMore
attribute [local go_sem] max2_int min2_int max_two min_two max_three min_three max_four min_four   -- for this text's walks alone
set_option linter.unusedVariables false
set_option linter.unusedSimpArgs false
attribute [local go_sem] bin_leq bin_gtr bin_geq
def impl_Entry_67.f (l0 : List (S55)) : Option ((List (S55))) := if l0.length < 5864062014805 then some l0 else none
set_option maxHeartbeats 8000000 in
set_option maxRecDepth 100000 in
theorem impl_Entry_67.calls (A0 : Option Addr) (c0 : Nat) (l0 : List (S55)) (r : List (S55)) (w : World) (hr0 : Kd.C k55 w A0 l0.length l0) (hc0 : l0.length ≤ c0) (h : impl_Entry_67.f l0 = some r) :
    Calls Try.prog 67 #[.slice A0 l0.length c0] w fun e w' => ∃ v0_ : Value, e = .returned (v0_) ∧ Kd.R k55 55 w' w.heap.size (fun _ => True) v0_ r ∧ Below w.heap.size w w' := by
  by_cases c5 : l0.length < 5864062014805
  · unfold impl_Entry_67.f at h
    rw [if_pos c5] at h
    obtain rfl := Option.some.inj h
    clear h
    cases A0 with
    | none =>
      have hz : l0 = [] := by
        rcases Nat.eq_zero_or_pos l0.length with h0 | h0
        · exact List.eq_nil_of_length_eq_zero h0
        · obtain ⟨ad, e, _⟩ := hr0.2.2 h0
          cases e
      subst hz
      clear hr0 c5
      have hq := fun w : World => eqnil_ (P := Try.prog) w 27 55 none 0 c0 Try.underlying27
      go_enter Try.func67, Try.ntmps67
      go_wp2
      go_ret
      exact ⟨_, rfl, Kd.R_nil _ _ _ _ _, Below.refl _ _⟩
    | some ad =>
      have HR0 := Aside0.mk hr0
      have HC0 := Aside0.mk hc0
      have LM := Aside0.mk c5
      clear hr0 hc0 c5
      have HB := Aside0.mk (Below.refl w.heap.size w)
      have hq := fun w : World => eqnil_ (P := Try.prog) w 27 55 (some ad) l0.length c0 Try.underlying27
      go_enter Try.func67, Try.ntmps67
      go_wp2_with (first | ((with_reducible refine gate_dst (N := 5) rfl ?_); refine Kd.R_lit k55 _ 55 ?hg (N := 5) ?hd (xs := ([] : List (S55))) (inner := []) (ok := fun _ => True) (okp := fun _ => True) ?hr ?hp (fun _ hk => hk) trivial (Below.refl _ _) (Nat.le_refl _) (by simp) ?_; (case hd => rfl); (case hg => rfl); (case hr => first | (go_simp; done) | (go_simp; rfl)); (case hp => exact (Reps.none _ _)); intro v881 w11 ho12 hb hg_ hnew_; clear hg_ hnew_; have n0_ := Aside0.mk (Kd.R_lower ho12 (below_size HB.out)); have n1_ := Aside0.mk (below_step HB.out hb); clear HB; have HO882 := n0_; have HB := n1_; clear n0_ n1_; clear hb ho12) | ((with_reducible refine gate_builtin (b := .append) (xs := #[.tmp 5, .tmp 6]) rfl ?_); at_builtin; refine Kd.R_append_rows k55 (w0 := w) w.heap.size rfl (.tmp 5) (.tmp 6) 27 55 (.agg #[(.string ⟨#[]⟩), (.int .i64 0)]) 24 rfl Try.underlying27 info55 rfl (by decide) (by omega) v881 [] l0 _ _ _ (fun _ => True) (fun _ => False) rfl rfl ?aO ?aR (fun _ _ h => h) (fun _ h => h.elim) ?aF ?aB ?aS ?aL ?_; (case aR => exact (Kd.C_below HR0.out HB.out)); (case aB => exact HB.out); (case aF => exact (fun _ _ => trivial)); (case aO => exact HO882.out); (case aS => exact (below_size HB.out)); (case aL => have := LM.out; simp only [List.length_nil]; omega); intro v884 w13 ho hb hg hat; rw [List.nil_append] at ho; have n0_ := Aside0.mk (hb); have n1_ := Aside0.mk (ho); clear HB; clear HO882; have HB := n0_; have HO885 := n1_; clear n0_ n1_; clear ho hb hg hat))
      go_ret
      exact ⟨_, rfl, HO885.out, HB.out⟩
  · unfold impl_Entry_67.f at h
    rw [if_neg c5] at h
    cases h
end Go.Proofs.Ytblejbgkcgajgaa.Q
end
