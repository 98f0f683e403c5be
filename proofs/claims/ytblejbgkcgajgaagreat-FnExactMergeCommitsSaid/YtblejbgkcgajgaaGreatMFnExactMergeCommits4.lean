/- Parts of the proof of the law FnExactMergeCommits, joined into one text. -/
import Derived.Test.YtblejbgkcgajgaaGreatMFnExactMergeCommits3
section
namespace Go.Proofs.YtblejbgkcgajgaaGreat.Q
open Go.RowKit Go.Proofs.YtblejbgkcgajgaaGreatW.PrintWords Go.Proofs.YtblejbgkcgajgaaGreatW.PrintLast Go.Proofs.YtblejbgkcgajgaaGreatW.PrintMore
attribute [local go_sem] max2_int min2_int max_two min_two max_three min_three max_four min_four   -- for this text's walks alone
set_option linter.unusedVariables false
set_option linter.unusedSimpArgs false
attribute [local go_sem] bin_leq bin_gtr bin_geq
def impl_MapOK.l0 : Nat → List (S84) → List (S84) → Int → Int → Option (Bool)
  | 0, _, _, _, _ => none
  | k + 1, x0, x5, x6, x7 => if x7 < x6 then (if 0 ≤ x7 then (if x7 < (x5.length : Int) then ((impl_NameOK.f ((rd_T84 x5 x7).f0)).bind fun t253 => (if t253 = true then ((impl_isValue.f ((rd_T84 x5 x7).f1)).bind fun t254 => (if t254 = true then (if x7 > 0 then (if 0 ≤ (wrap64 (x7 - 1)) then (if (wrap64 (x7 - 1)) < (x0.length : Int) then (if ((Op.bytesLess (((rd_T84 x0 (wrap64 (x7 - 1))).f0).toList) (((rd_T84 x5 x7).f0).toList)) = true) then (impl_MapOK.l0 k x0 x5 x6 (wrap64 (x7 + 1))) else (some false)) else (none)) else (none)) else (impl_MapOK.l0 k x0 x5 x6 (wrap64 (x7 + 1)))) else (some false))) else (some false))) else (none)) else (none)) else (some (decide ((x0.length : Int) ≤ 12)))
def impl_MapOK.f (k : Nat) (l0 : List (S84)) : Option (Bool) := impl_MapOK.l0 k l0 l0 (l0.length : Int) 0
def impl_MapOK.T4 : Bool × List (List Nat × List Nat) := (true, [([], []), ([0], [0]), ([1], [1]), ([2], [2]), ([3, 2], [3]), ([4], [4]), ([5, 4], [4, 5]), ([6, 4, 4], [4, 6]), ([7, 4], [4, 7]), ([4, 8], [4, 8]), ([9, 7], [9]), ([10], [10]), ([11, 10], [10, 11]), ([12, 10, 10], [10, 12]), ([13], [13]), ([13], [13]), ([15, 13], [13, 15]), ([14, 16, 13], [13, 14, 16]), ([17, 13], [13, 17]), ([18, 13], [13, 18]), ([13], [13]), ([20, 13], [13, 20]), ([19, 21, 13], [13, 19, 21]), ([13, 22, 10], [10, 13, 22]), ([10, 23], [10, 23])])
def impl_MapOK.B4 : List Nat := [0, 1, 3, 7, 15, 31, 63, 127, 255, 511, 1023, 2047, 4095, 8191, 16383, 16383, 49151, 131071, 262143, 524287, 16383, 1064959, 4194303, 8388607, 16777215]
theorem impl_MapOK.tab4 : rtab .any (opsOf Tryz.f136 4) = impl_MapOK.T4 := by kernel_rfl
theorem impl_MapOK.bits4 : waitsOk impl_MapOK.T4.2 impl_MapOK.B4 = true := by kernel_rfl
set_option maxHeartbeats 8000000 in
set_option maxRecDepth 100000 in
theorem impl_MapOK.calls (k : Nat) (A0 : Option Addr) (c0 : Nat) (l0 : List (S84)) (r : Bool) (w : World) (hr0 : Kd.C k84 w A0 l0.length l0) (hc0 : l0.length ≤ c0) (h : impl_MapOK.f k l0 = some r) :
    Calls Tryz.prog 136 #[.slice A0 l0.length c0] w fun e w' => e = .returned (.bool r) ∧ Below w.heap.size w w' := by
  have hu84 := Tryz.underlying84
  have HR0 := Aside0.mk hr0
  have HC0 := Aside0.mk hc0
  clear hr0 hc0
  have HB := Aside0.mk (Below.refl w.heap.size w)
  have H : (impl_MapOK.l0 k l0 l0 (l0.length : Int) 0) = some r := h
  clear h
  have H' := Aside0.mk H
  clear H
  go_enter Tryz.func136, Tryz.ntmps136
  go_wp2
  go_loopg [7] k (fun kq v7 w' => ∃ (x7_1 : Int), v7 = .int .i64 x7_1 ∧ Aside0 (impl_MapOK.l0 kq l0 l0 (l0.length : Int) x7_1 = some r) ∧ Aside0 (kq ≤ k) ∧ Aside0 (Below w.heap.size w w'))
  case atStart => exact ⟨(0), vE, H', ⟨Nat.le_refl _⟩, ⟨bW⟩⟩
  case round =>
    clear H'
    obtain ⟨x7_1, rfl, HA, HK1, HB⟩ := hrel
    cases gk with
    | zero => exact absurd HA.out (by simp [impl_MapOK.l0])
    | succ k1 =>
      have H := HA.out
      clear HA
      simp only [impl_MapOK.l0] at H
      by_cases c2 : x7_1 < (l0.length : Int)
      · rw [if_pos c2] at H
        have c2b0 : decide (x7_1 < (l0.length : Int)) = true := decide_eq_true c2
        clear c2
        by_cases c3 : 0 ≤ x7_1
        · rw [if_pos c3] at H
          have c3b0 : decide (0 ≤ x7_1) = true := decide_eq_true c3
          clear c3
          by_cases c4 : x7_1 < (l0.length : Int)
          · rw [if_pos c4] at H
            have c4b0 : decide (x7_1 < (l0.length : Int)) = true := decide_eq_true c4
            clear c4
            replace H := Option.bind_eq_some_iff.mp H
            obtain ⟨t253, A50, H⟩ := H
            replace H : (if t253 = true then ((impl_isValue.f ((rd_T84 l0 x7_1).f1)).bind fun t254 => (if t254 = true then (if x7_1 > 0 then (if 0 ≤ (wrap64 (x7_1 - 1)) then (if (wrap64 (x7_1 - 1)) < (l0.length : Int) then (if ((Op.bytesLess (((rd_T84 l0 (wrap64 (x7_1 - 1))).f0).toList) (((rd_T84 l0 x7_1).f0).toList)) = true) then (impl_MapOK.l0 k1 l0 l0 (l0.length : Int) (wrap64 (x7_1 + 1))) else (some false)) else (none)) else (none)) else (impl_MapOK.l0 k1 l0 l0 (l0.length : Int) (wrap64 (x7_1 + 1)))) else (some false))) else (some false)) = some r := H
            have A5 := Aside0.mk A50
            clear A50
            by_cases c6 : t253 = true
            · subst c6
              have H1 : ((impl_isValue.f ((rd_T84 l0 x7_1).f1)).bind fun t254 => (if t254 = true then (if x7_1 > 0 then (if 0 ≤ (wrap64 (x7_1 - 1)) then (if (wrap64 (x7_1 - 1)) < (l0.length : Int) then (if ((Op.bytesLess (((rd_T84 l0 (wrap64 (x7_1 - 1))).f0).toList) (((rd_T84 l0 x7_1).f0).toList)) = true) then (impl_MapOK.l0 k1 l0 l0 (l0.length : Int) (wrap64 (x7_1 + 1))) else (some false)) else (none)) else (none)) else (impl_MapOK.l0 k1 l0 l0 (l0.length : Int) (wrap64 (x7_1 + 1)))) else (some false))) = some r := by rw [if_pos rfl] at H; exact H
              clear H
              have H := H1
              clear H1
              replace H := Option.bind_eq_some_iff.mp H
              obtain ⟨t254, A70, H⟩ := H
              replace H : (if t254 = true then (if x7_1 > 0 then (if 0 ≤ (wrap64 (x7_1 - 1)) then (if (wrap64 (x7_1 - 1)) < (l0.length : Int) then (if ((Op.bytesLess (((rd_T84 l0 (wrap64 (x7_1 - 1))).f0).toList) (((rd_T84 l0 x7_1).f0).toList)) = true) then (impl_MapOK.l0 k1 l0 l0 (l0.length : Int) (wrap64 (x7_1 + 1))) else (some false)) else (none)) else (none)) else (impl_MapOK.l0 k1 l0 l0 (l0.length : Int) (wrap64 (x7_1 + 1)))) else (some false)) = some r := H
              have A7 := Aside0.mk A70
              clear A70
              by_cases c8 : t254 = true
              · subst c8
                have H1 : (if x7_1 > 0 then (if 0 ≤ (wrap64 (x7_1 - 1)) then (if (wrap64 (x7_1 - 1)) < (l0.length : Int) then (if ((Op.bytesLess (((rd_T84 l0 (wrap64 (x7_1 - 1))).f0).toList) (((rd_T84 l0 x7_1).f0).toList)) = true) then (impl_MapOK.l0 k1 l0 l0 (l0.length : Int) (wrap64 (x7_1 + 1))) else (some false)) else (none)) else (none)) else (impl_MapOK.l0 k1 l0 l0 (l0.length : Int) (wrap64 (x7_1 + 1)))) = some r := by rw [if_pos rfl] at H; exact H
                clear H
                have H := H1
                clear H1
                by_cases c9 : x7_1 > 0
                · rw [if_pos c9] at H
                  have c9b0 : decide (0 < x7_1) = true := decide_eq_true c9
                  clear c9
                  obtain ⟨ji10, hji10⟩ : ∃ j_ : Int, (wrap64 (x7_1 - 1)) = j_ := ⟨_, rfl⟩
                  replace H : (if 0 ≤ (ji10) then (if (ji10) < (l0.length : Int) then (if ((Op.bytesLess (((rd_T84 l0 (ji10)).f0).toList) (((rd_T84 l0 x7_1).f0).toList)) = true) then (impl_MapOK.l0 k1 l0 l0 (l0.length : Int) (wrap64 (x7_1 + 1))) else (some false)) else (none)) else (none)) = some r := by (rw [hji10] at H; exact H)
                  have hji10w : (IntKind.i64.wrap (x7_1 - 1)) = ji10 := (i64_w _).trans hji10
                  by_cases c11 : 0 ≤ (ji10)
                  · rw [if_pos c11] at H
                    have c11b0 : decide (0 ≤ (ji10)) = true := decide_eq_true c11
                    clear c11
                    by_cases c12 : (ji10) < (l0.length : Int)
                    · rw [if_pos c12] at H
                      have c12b0 : decide ((ji10) < (l0.length : Int)) = true := decide_eq_true c12
                      clear c12
                      by_cases c13 : ((Op.bytesLess (((rd_T84 l0 (ji10)).f0).toList) (((rd_T84 l0 x7_1).f0).toList)) = true)
                      · rw [if_pos c13] at H
                        have c13b0 : (Op.bytesLess (((rd_T84 l0 (ji10)).f0).toList) (((rd_T84 l0 x7_1).f0).toList)) = true := c13
                        clear c13
                        have H' := Aside0.mk H
                        clear H
                        have p251 : 0 ≤ (x7_1 : Int) := odt
                        have q251 : x7_1 < (l0.length : Int) := odt
                        obtain ⟨ad251, e251, hx251_0, hx251_1⟩ := at_T84 HR0.out x7_1 p251 q251
                        cases e251
                        replace hx251_0 := (HB.out.cell (World.block_lt_of_cell? w _ hx251_0)).trans hx251_0
                        replace hx251_1 := (HB.out.cell (World.block_lt_of_cell? w _ hx251_1)).trans hx251_1
                        replace p251 := eq_true p251
                        replace q251 := eq_true q251
                        try go_wp2_with (((with_reducible refine gate_dst (N := 4) rfl ?_); refine bE (N := 4) (cs := #[.string (⟨#[]⟩ : ByteArray), .int .i64 0]) (t := 84) ?_; intro gb252 hg w14 hbox hb; have n0_ := Aside0.mk (below_step (w := w) bW hb); have n1_ := Aside0.mk (hbox); have n2_ := Aside0.mk (gS (w := w) hg); have n3_ := n2_; clear HB; have HB := n0_; have BK252 := n1_; have GW252 := n2_; have GE252 := n3_; clear n0_ n1_ n2_ n3_; clear hb hbox hg; obtain ⟨hcz15_0, hcz15_1⟩ := cz2 BK252; obtain ⟨hfz15_0, hfz15_1⟩ := fz2 BK252))
                        have n0_ : Aside0 (((w14.setCell ⟨gb252, 0, none⟩ (.string ((rd_T84 l0 x7_1).f0))).setCell ⟨gb252, 1, none⟩ (.int .i64 ((rd_T84 l0 x7_1).f1))).heap[gb252]? = some (.cells #[.string ((rd_T84 l0 x7_1).f0), .int .i64 ((rd_T84 l0 x7_1).f1)] 84 (0, 0))) := ⟨by refine blk_put (cs := #[.string ((rd_T84 l0 x7_1).f0), .int .i64 0]) ?_ 1 _ rfl; refine blk_put (cs := #[.string (⟨#[]⟩ : ByteArray), .int .i64 0]) ?_ 0 _ rfl; exact BK252.out⟩
                        have n1_ : Aside0 (Below w.heap.size w ((w14.setCell ⟨gb252, 0, none⟩ (.string ((rd_T84 l0 x7_1).f0))).setCell ⟨gb252, 1, none⟩ (.int .i64 ((rd_T84 l0 x7_1).f1)))) := ⟨bW⟩
                        (try clear BK252)
                        (try clear HB)
                        generalize ((w14.setCell ⟨gb252, 0, none⟩ (.string ((rd_T84 l0 x7_1).f0))).setCell ⟨gb252, 1, none⟩ (.int .i64 ((rd_T84 l0 x7_1).f1))) = w16 at n0_ n1_ ⊢
                        have BK252 := n0_
                        have HB := n1_
                        clear n0_ n1_
                        have n0_ := Aside0.mk (blk_drew BK252.out)
                        have n1_ := Aside0.mk (below_drew1 HB.out)
                        clear BK252
                        clear HB
                        have BK252 := n0_
                        have HB := n1_
                        clear n0_ n1_
                        have p255 : 0 ≤ ((ji10) : Int) := odt
                        have q255 : (ji10) < (l0.length : Int) := odt
                        obtain ⟨ad255, e255, hx255_0, hx255_1⟩ := at_T84 HR0.out (ji10) p255 q255
                        have hw255_1 := hx255_1
                        have hw255_0 := hx255_0
                        obtain rfl : ad251 = ad255 := (by injection e255)
                        replace hx255_0 := (HB.out.cell (World.block_lt_of_cell? w _ hx255_0)).trans hx255_0
                        replace hx255_1 := (HB.out.cell (World.block_lt_of_cell? w _ hx255_1)).trans hx255_1
                        replace p255 := eq_true p255
                        replace q255 := eq_true q255
                        refine start_ (n := 25) (S := fun w' => w'.cell? ⟨gb252, 0, none⟩ = some (.string ((rd_T84 l0 x7_1).f0)) ∧ w'.cell? ⟨gb252, 1, none⟩ = some (.int .i64 ((rd_T84 l0 x7_1).f1)) ∧ w'.cell? (ad251.add (((ji10)).toNat * 2)) = some (.string ((rd_T84 l0 (ji10)).f0)) ∧ w'.cell? ⟨(ad251.add (((ji10)).toNat * 2)).block, (ad251.add (((ji10)).toNat * 2)).off + 1, none⟩ = some (.int .i64 ((rd_T84 l0 (ji10)).f1))) (ds := []) (bs 25 0) (by kernel_rfl) rfl rfl ⟨(blk_cell BK252.out 0).trans rfl, (blk_cell BK252.out 1).trans rfl, ((HB.out.cell (World.block_lt_of_cell? w _ hw255_0)).trans hw255_0), ((HB.out.cell (World.block_lt_of_cell? w _ hw255_1)).trans hw255_1)⟩ (fun hHeld => ?_); refine with_tabW impl_MapOK.tab4 impl_MapOK.bits4 (fun HT_ HW_ => ?_)
                        generalize w16.drew = w17 at BK252 HB hx255_0 hx255_1 hHeld ⊢
                        refine pz 0 12 (bs 25 1) HT_ ?_
                        refine tz 1 13 (bs 25 3) HT_ HW_ hHeld ?_
                        refine one_ (i := 2) (N := some 14) (bs 25 7) rfl rfl (one_of HT_.out (by kernel_rfl)) (by decide) (fun K hK => ?_)
                        refine goes_ Tryz.func57 (by kernel_rfl) rfl #[.string ((rd_T84 l0 x7_1).f0)] (by rfl) rfl rfl gA ?_
                        with_reducible refine (impl_NameOK.calls ((rd_T84 l0 x7_1).f0) true _ A5.out).mono ?_
                        rintro e w18 ⟨rfl, hb⟩
                        refine ⟨_, rfl, ?_⟩
                        have n0_ := Aside0.mk (kb BK252 hb)
                        have n1_ := Aside0.mk (below_step (w := w) bW hb)
                        clear BK252
                        clear HB
                        have BK252 := n0_
                        have HB := n1_
                        clear n0_ n1_
                        (try clear hb)
                        refine hK.out _ _ ⟨(blk_cell BK252.out 0).trans rfl, (blk_cell BK252.out 1).trans rfl, ((HB.out.cell (World.block_lt_of_cell? w _ hw255_0)).trans hw255_0), ((HB.out.cell (World.block_lt_of_cell? w _ hw255_1)).trans hw255_1)⟩ (fun hHeld => ?_)
                        clear hK K
                        refine norm_ (a' := ?_) ?_ ?_
                        rotate_left
                        · show Act.put _ (some 14) _ = _
                          simp only [Act.put, List.setIfInBounds_toArray, List.set_cons_zero, List.set_cons_succ, i64_w, i32_w]
                          rfl
                        refine pz 3 15 (bs 25 15) HT_ ?_
                        refine pz 4 16 (bs 25 31) HT_ ?_
                        refine pz 5 17 (bs 25 63) HT_ ?_
                        refine tz 6 18 (bs 25 127) HT_ HW_ hHeld ?_
                        refine one_ (i := 7) (N := some 19) (bs 25 255) rfl rfl (one_of HT_.out (by kernel_rfl)) (by decide) (fun K hK => ?_)
                        refine goes_ Tryz.func141 (by kernel_rfl) rfl #[.int .i64 ((rd_T84 l0 x7_1).f1)] (by rfl) rfl rfl gA ?_
                        with_reducible refine (impl_isValue.calls ((rd_T84 l0 x7_1).f1) true _ A7.out).mono ?_
                        rintro e w' ⟨rfl, ⟨nd, rfl⟩⟩
                        refine ⟨_, rfl, ?_⟩
                        refine hK.out _ _ ⟨(blk_cell BK252.out 0).trans rfl, (blk_cell BK252.out 1).trans rfl, ((HB.out.cell (World.block_lt_of_cell? w _ hw255_0)).trans hw255_0), ((HB.out.cell (World.block_lt_of_cell? w _ hw255_1)).trans hw255_1)⟩ (fun hHeld => ?_)
                        clear hK K
                        refine norm_ (a' := ?_) ?_ ?_
                        rotate_left
                        · show Act.put _ (some 19) _ = _
                          simp only [Act.put, List.setIfInBounds_toArray, List.set_cons_zero, List.set_cons_succ, i64_w, i32_w]
                          rfl
                        refine pz 8 20 (bs 25 511) HT_ ?_
                        refine pz 9 21 (bs 25 1023) HT_ ?_
                        refine pz 10 22 (bs 25 2047) HT_ ?_
                        refine pz 11 23 (bs 25 4095) HT_ ?_
                        refine pz 12 24 (bs 25 8191) HT_ ?_
                        refine pz 13 25 (bs 25 16383) HT_ ?_
                        refine pz 14 26 (bs 25 32767) HT_ ?_
                        refine pz 15 27 (bs 25 65535) HT_ ?_
                        refine pz 16 28 (bs 25 131071) HT_ ?_
                        refine pz 17 29 (bs 25 262143) HT_ ?_
                        refine pz 18 30 (bs 25 524287) HT_ ?_
                        refine pz 20 32 (bs 25 1572863) HT_ ?_
                        refine tz 19 31 (bs 25 2097151) HT_ HW_ hHeld ?_
                        refine tz 21 33 (bs 25 4194303) HT_ HW_ hHeld ?_
                        refine pz 22 34 (bs 25 8388607) HT_ ?_
                        refine pz 23 35 (bs 25 16777215) HT_ ?_
                        refine pz 24 36 (bs 25 33554431) HT_ ?_
                        refine done_ (done_of HT_.out (by kernel_rfl)) ?_
                        try go_wp2
                        go_roundg k1
                        case measure => have := HK1.out; omega
                        case rel => exact ⟨(wrap64 (x7_1 + 1)), vE, H', ⟨by have := HK1.out; omega⟩, ⟨bW⟩⟩
                      · rw [if_neg c13] at H
                        have c13b0 : (Op.bytesLess (((rd_T84 l0 (ji10)).f0).toList) (((rd_T84 l0 x7_1).f0).toList)) = false := by simpa using c13
                        clear c13
                        obtain rfl := Option.some.inj H
                        have p251 : 0 ≤ (x7_1 : Int) := odt
                        have q251 : x7_1 < (l0.length : Int) := odt
                        obtain ⟨ad251, e251, hx251_0, hx251_1⟩ := at_T84 HR0.out x7_1 p251 q251
                        cases e251
                        replace hx251_0 := (HB.out.cell (World.block_lt_of_cell? w _ hx251_0)).trans hx251_0
                        replace hx251_1 := (HB.out.cell (World.block_lt_of_cell? w _ hx251_1)).trans hx251_1
                        replace p251 := eq_true p251
                        replace q251 := eq_true q251
                        try go_wp2_with (((with_reducible refine gate_dst (N := 4) rfl ?_); refine bE (N := 4) (cs := #[.string (⟨#[]⟩ : ByteArray), .int .i64 0]) (t := 84) ?_; intro gb252 hg w19 hbox hb; have n0_ := Aside0.mk (below_step (w := w) bW hb); have n1_ := Aside0.mk (hbox); have n2_ := Aside0.mk (gS (w := w) hg); have n3_ := n2_; clear HB; have HB := n0_; have BK252 := n1_; have GW252 := n2_; have GE252 := n3_; clear n0_ n1_ n2_ n3_; clear hb hbox hg; obtain ⟨hcz20_0, hcz20_1⟩ := cz2 BK252; obtain ⟨hfz20_0, hfz20_1⟩ := fz2 BK252))
                        have n0_ : Aside0 (((w19.setCell ⟨gb252, 0, none⟩ (.string ((rd_T84 l0 x7_1).f0))).setCell ⟨gb252, 1, none⟩ (.int .i64 ((rd_T84 l0 x7_1).f1))).heap[gb252]? = some (.cells #[.string ((rd_T84 l0 x7_1).f0), .int .i64 ((rd_T84 l0 x7_1).f1)] 84 (0, 0))) := ⟨by refine blk_put (cs := #[.string ((rd_T84 l0 x7_1).f0), .int .i64 0]) ?_ 1 _ rfl; refine blk_put (cs := #[.string (⟨#[]⟩ : ByteArray), .int .i64 0]) ?_ 0 _ rfl; exact BK252.out⟩
                        have n1_ : Aside0 (Below w.heap.size w ((w19.setCell ⟨gb252, 0, none⟩ (.string ((rd_T84 l0 x7_1).f0))).setCell ⟨gb252, 1, none⟩ (.int .i64 ((rd_T84 l0 x7_1).f1)))) := ⟨bW⟩
                        (try clear BK252)
                        (try clear HB)
                        generalize ((w19.setCell ⟨gb252, 0, none⟩ (.string ((rd_T84 l0 x7_1).f0))).setCell ⟨gb252, 1, none⟩ (.int .i64 ((rd_T84 l0 x7_1).f1))) = w21 at n0_ n1_ ⊢
                        have BK252 := n0_
                        have HB := n1_
                        clear n0_ n1_
                        have n0_ := Aside0.mk (blk_drew BK252.out)
                        have n1_ := Aside0.mk (below_drew1 HB.out)
                        clear BK252
                        clear HB
                        have BK252 := n0_
                        have HB := n1_
                        clear n0_ n1_
                        have p255 : 0 ≤ ((ji10) : Int) := odt
                        have q255 : (ji10) < (l0.length : Int) := odt
                        obtain ⟨ad255, e255, hx255_0, hx255_1⟩ := at_T84 HR0.out (ji10) p255 q255
                        have hw255_1 := hx255_1
                        have hw255_0 := hx255_0
                        obtain rfl : ad251 = ad255 := (by injection e255)
                        replace hx255_0 := (HB.out.cell (World.block_lt_of_cell? w _ hx255_0)).trans hx255_0
                        replace hx255_1 := (HB.out.cell (World.block_lt_of_cell? w _ hx255_1)).trans hx255_1
                        replace p255 := eq_true p255
                        replace q255 := eq_true q255
                        refine start_ (n := 25) (S := fun w' => w'.cell? ⟨gb252, 0, none⟩ = some (.string ((rd_T84 l0 x7_1).f0)) ∧ w'.cell? ⟨gb252, 1, none⟩ = some (.int .i64 ((rd_T84 l0 x7_1).f1)) ∧ w'.cell? (ad251.add (((ji10)).toNat * 2)) = some (.string ((rd_T84 l0 (ji10)).f0)) ∧ w'.cell? ⟨(ad251.add (((ji10)).toNat * 2)).block, (ad251.add (((ji10)).toNat * 2)).off + 1, none⟩ = some (.int .i64 ((rd_T84 l0 (ji10)).f1))) (ds := []) (bs 25 0) (by kernel_rfl) rfl rfl ⟨(blk_cell BK252.out 0).trans rfl, (blk_cell BK252.out 1).trans rfl, ((HB.out.cell (World.block_lt_of_cell? w _ hw255_0)).trans hw255_0), ((HB.out.cell (World.block_lt_of_cell? w _ hw255_1)).trans hw255_1)⟩ (fun hHeld => ?_); refine with_tabW impl_MapOK.tab4 impl_MapOK.bits4 (fun HT_ HW_ => ?_)
                        generalize w21.drew = w22 at BK252 HB hx255_0 hx255_1 hHeld ⊢
                        refine pz 0 12 (bs 25 1) HT_ ?_
                        refine tz 1 13 (bs 25 3) HT_ HW_ hHeld ?_
                        refine one_ (i := 2) (N := some 14) (bs 25 7) rfl rfl (one_of HT_.out (by kernel_rfl)) (by decide) (fun K hK => ?_)
                        refine goes_ Tryz.func57 (by kernel_rfl) rfl #[.string ((rd_T84 l0 x7_1).f0)] (by rfl) rfl rfl gA ?_
                        with_reducible refine (impl_NameOK.calls ((rd_T84 l0 x7_1).f0) true _ A5.out).mono ?_
                        rintro e w23 ⟨rfl, hb⟩
                        refine ⟨_, rfl, ?_⟩
                        have n0_ := Aside0.mk (kb BK252 hb)
                        have n1_ := Aside0.mk (below_step (w := w) bW hb)
                        clear BK252
                        clear HB
                        have BK252 := n0_
                        have HB := n1_
                        clear n0_ n1_
                        (try clear hb)
                        refine hK.out _ _ ⟨(blk_cell BK252.out 0).trans rfl, (blk_cell BK252.out 1).trans rfl, ((HB.out.cell (World.block_lt_of_cell? w _ hw255_0)).trans hw255_0), ((HB.out.cell (World.block_lt_of_cell? w _ hw255_1)).trans hw255_1)⟩ (fun hHeld => ?_)
                        clear hK K
                        refine norm_ (a' := ?_) ?_ ?_
                        rotate_left
                        · show Act.put _ (some 14) _ = _
                          simp only [Act.put, List.setIfInBounds_toArray, List.set_cons_zero, List.set_cons_succ, i64_w, i32_w]
                          rfl
                        refine pz 3 15 (bs 25 15) HT_ ?_
                        refine pz 4 16 (bs 25 31) HT_ ?_
                        refine pz 5 17 (bs 25 63) HT_ ?_
                        refine tz 6 18 (bs 25 127) HT_ HW_ hHeld ?_
                        refine one_ (i := 7) (N := some 19) (bs 25 255) rfl rfl (one_of HT_.out (by kernel_rfl)) (by decide) (fun K hK => ?_)
                        refine goes_ Tryz.func141 (by kernel_rfl) rfl #[.int .i64 ((rd_T84 l0 x7_1).f1)] (by rfl) rfl rfl gA ?_
                        with_reducible refine (impl_isValue.calls ((rd_T84 l0 x7_1).f1) true _ A7.out).mono ?_
                        rintro e w' ⟨rfl, ⟨nd, rfl⟩⟩
                        refine ⟨_, rfl, ?_⟩
                        refine hK.out _ _ ⟨(blk_cell BK252.out 0).trans rfl, (blk_cell BK252.out 1).trans rfl, ((HB.out.cell (World.block_lt_of_cell? w _ hw255_0)).trans hw255_0), ((HB.out.cell (World.block_lt_of_cell? w _ hw255_1)).trans hw255_1)⟩ (fun hHeld => ?_)
                        clear hK K
                        refine norm_ (a' := ?_) ?_ ?_
                        rotate_left
                        · show Act.put _ (some 19) _ = _
                          simp only [Act.put, List.setIfInBounds_toArray, List.set_cons_zero, List.set_cons_succ, i64_w, i32_w]
                          rfl
                        refine pz 8 20 (bs 25 511) HT_ ?_
                        refine pz 9 21 (bs 25 1023) HT_ ?_
                        refine pz 10 22 (bs 25 2047) HT_ ?_
                        refine pz 11 23 (bs 25 4095) HT_ ?_
                        refine pz 12 24 (bs 25 8191) HT_ ?_
                        refine pz 13 25 (bs 25 16383) HT_ ?_
                        refine pz 14 26 (bs 25 32767) HT_ ?_
                        refine pz 15 27 (bs 25 65535) HT_ ?_
                        refine pz 16 28 (bs 25 131071) HT_ ?_
                        refine pz 17 29 (bs 25 262143) HT_ ?_
                        refine pz 18 30 (bs 25 524287) HT_ ?_
                        refine pz 20 32 (bs 25 1572863) HT_ ?_
                        refine tz 19 31 (bs 25 2097151) HT_ HW_ hHeld ?_
                        refine tz 21 33 (bs 25 4194303) HT_ HW_ hHeld ?_
                        refine pz 22 34 (bs 25 8388607) HT_ ?_
                        refine pz 23 35 (bs 25 16777215) HT_ ?_
                        refine pz 24 36 (bs 25 33554431) HT_ ?_
                        refine done_ (done_of HT_.out (by kernel_rfl)) ?_
                        try go_wp2
                        go_ret
                        exact ⟨by rfl, bW⟩
                    · rw [if_neg c12] at H
                      exact absurd H (by simp)
                  · rw [if_neg c11] at H
                    exact absurd H (by simp)
                · rw [if_neg c9] at H
                  have c9b0 : decide (0 < x7_1) = false := decide_eq_false c9
                  clear c9
                  have H' := Aside0.mk H
                  clear H
                  have p251 : 0 ≤ (x7_1 : Int) := odt
                  have q251 : x7_1 < (l0.length : Int) := odt
                  obtain ⟨ad251, e251, hx251_0, hx251_1⟩ := at_T84 HR0.out x7_1 p251 q251
                  cases e251
                  replace hx251_0 := (HB.out.cell (World.block_lt_of_cell? w _ hx251_0)).trans hx251_0
                  replace hx251_1 := (HB.out.cell (World.block_lt_of_cell? w _ hx251_1)).trans hx251_1
                  replace p251 := eq_true p251
                  replace q251 := eq_true q251
                  try go_wp2_with (((with_reducible refine gate_dst (N := 4) rfl ?_); refine bE (N := 4) (cs := #[.string (⟨#[]⟩ : ByteArray), .int .i64 0]) (t := 84) ?_; intro gb252 hg w24 hbox hb; have n0_ := Aside0.mk (below_step (w := w) bW hb); have n1_ := Aside0.mk (hbox); have n2_ := Aside0.mk (gS (w := w) hg); have n3_ := n2_; clear HB; have HB := n0_; have BK252 := n1_; have GW252 := n2_; have GE252 := n3_; clear n0_ n1_ n2_ n3_; clear hb hbox hg; obtain ⟨hcz25_0, hcz25_1⟩ := cz2 BK252; obtain ⟨hfz25_0, hfz25_1⟩ := fz2 BK252))
                  have n0_ : Aside0 (((w24.setCell ⟨gb252, 0, none⟩ (.string ((rd_T84 l0 x7_1).f0))).setCell ⟨gb252, 1, none⟩ (.int .i64 ((rd_T84 l0 x7_1).f1))).heap[gb252]? = some (.cells #[.string ((rd_T84 l0 x7_1).f0), .int .i64 ((rd_T84 l0 x7_1).f1)] 84 (0, 0))) := ⟨by refine blk_put (cs := #[.string ((rd_T84 l0 x7_1).f0), .int .i64 0]) ?_ 1 _ rfl; refine blk_put (cs := #[.string (⟨#[]⟩ : ByteArray), .int .i64 0]) ?_ 0 _ rfl; exact BK252.out⟩
                  have n1_ : Aside0 (Below w.heap.size w ((w24.setCell ⟨gb252, 0, none⟩ (.string ((rd_T84 l0 x7_1).f0))).setCell ⟨gb252, 1, none⟩ (.int .i64 ((rd_T84 l0 x7_1).f1)))) := ⟨bW⟩
                  (try clear BK252)
                  (try clear HB)
                  generalize ((w24.setCell ⟨gb252, 0, none⟩ (.string ((rd_T84 l0 x7_1).f0))).setCell ⟨gb252, 1, none⟩ (.int .i64 ((rd_T84 l0 x7_1).f1))) = w26 at n0_ n1_ ⊢
                  have BK252 := n0_
                  have HB := n1_
                  clear n0_ n1_
                  have n0_ := Aside0.mk (blk_drew BK252.out)
                  have n1_ := Aside0.mk (below_drew1 HB.out)
                  clear BK252
                  clear HB
                  have BK252 := n0_
                  have HB := n1_
                  clear n0_ n1_
                  refine start_ (n := 25) (S := fun w' => w'.cell? ⟨gb252, 0, none⟩ = some (.string ((rd_T84 l0 x7_1).f0)) ∧ w'.cell? ⟨gb252, 1, none⟩ = some (.int .i64 ((rd_T84 l0 x7_1).f1))) (ds := []) (bs 25 0) (by kernel_rfl) rfl rfl ⟨(blk_cell BK252.out 0).trans rfl, (blk_cell BK252.out 1).trans rfl⟩ (fun hHeld => ?_); refine with_tabW impl_MapOK.tab4 impl_MapOK.bits4 (fun HT_ HW_ => ?_)
                  generalize w26.drew = w27 at BK252 HB hHeld ⊢
                  refine pz 0 12 (bs 25 1) HT_ ?_
                  refine tz 1 13 (bs 25 3) HT_ HW_ hHeld ?_
                  refine one_ (i := 2) (N := some 14) (bs 25 7) rfl rfl (one_of HT_.out (by kernel_rfl)) (by decide) (fun K hK => ?_)
                  refine goes_ Tryz.func57 (by kernel_rfl) rfl #[.string ((rd_T84 l0 x7_1).f0)] (by rfl) rfl rfl gA ?_
                  with_reducible refine (impl_NameOK.calls ((rd_T84 l0 x7_1).f0) true _ A5.out).mono ?_
                  rintro e w28 ⟨rfl, hb⟩
                  refine ⟨_, rfl, ?_⟩
                  have n0_ := Aside0.mk (kb BK252 hb)
                  have n1_ := Aside0.mk (below_step (w := w) bW hb)
                  clear BK252
                  clear HB
                  have BK252 := n0_
                  have HB := n1_
                  clear n0_ n1_
                  (try clear hb)
                  refine hK.out _ _ ⟨(blk_cell BK252.out 0).trans rfl, (blk_cell BK252.out 1).trans rfl⟩ (fun hHeld => ?_)
                  clear hK K
                  refine norm_ (a' := ?_) ?_ ?_
                  rotate_left
                  · show Act.put _ (some 14) _ = _
                    simp only [Act.put, List.setIfInBounds_toArray, List.set_cons_zero, List.set_cons_succ, i64_w, i32_w]
                    rfl
                  refine pz 3 15 (bs 25 15) HT_ ?_
                  refine pz 4 16 (bs 25 31) HT_ ?_
                  refine pz 5 17 (bs 25 63) HT_ ?_
                  refine tz 6 18 (bs 25 127) HT_ HW_ hHeld ?_
                  refine one_ (i := 7) (N := some 19) (bs 25 255) rfl rfl (one_of HT_.out (by kernel_rfl)) (by decide) (fun K hK => ?_)
                  refine goes_ Tryz.func141 (by kernel_rfl) rfl #[.int .i64 ((rd_T84 l0 x7_1).f1)] (by rfl) rfl rfl gA ?_
                  with_reducible refine (impl_isValue.calls ((rd_T84 l0 x7_1).f1) true _ A7.out).mono ?_
                  rintro e w' ⟨rfl, ⟨nd, rfl⟩⟩
                  refine ⟨_, rfl, ?_⟩
                  refine hK.out _ _ ⟨(blk_cell BK252.out 0).trans rfl, (blk_cell BK252.out 1).trans rfl⟩ (fun hHeld => ?_)
                  clear hK K
                  refine norm_ (a' := ?_) ?_ ?_
                  rotate_left
                  · show Act.put _ (some 19) _ = _
                    simp only [Act.put, List.setIfInBounds_toArray, List.set_cons_zero, List.set_cons_succ, i64_w, i32_w]
                    rfl
                  refine pz 8 20 (bs 25 511) HT_ ?_
                  refine pz 9 21 (bs 25 1023) HT_ ?_
                  refine pz 10 22 (bs 25 2047) HT_ ?_
                  refine pz 11 23 (bs 25 4095) HT_ ?_
                  refine pz 12 24 (bs 25 8191) HT_ ?_
                  refine pz 13 25 (bs 25 16383) HT_ ?_
                  refine uz 14 26 (bs 25 32767) HT_ ?_
                  refine uz 15 27 (bs 25 65535) HT_ ?_
                  refine uz 16 28 (bs 25 131071) HT_ ?_
                  refine uz 17 29 (bs 25 262143) HT_ ?_
                  refine uz 18 30 (bs 25 524287) HT_ ?_
                  refine uz 19 31 (bs 25 1048575) HT_ ?_
                  refine uz 20 32 (bs 25 2097151) HT_ ?_
                  refine uz 21 33 (bs 25 4194303) HT_ ?_
                  refine uz 22 34 (bs 25 8388607) HT_ ?_
                  refine pz 23 35 (bs 25 16777215) HT_ ?_
                  refine pz 24 36 (bs 25 33554431) HT_ ?_
                  refine done_ (done_of HT_.out (by kernel_rfl)) ?_
                  try go_wp2
                  go_roundg k1
                  case measure => have := HK1.out; omega
                  case rel => exact ⟨(wrap64 (x7_1 + 1)), vE, H', ⟨by have := HK1.out; omega⟩, ⟨bW⟩⟩
              · replace c8 := Bool.eq_false_iff.mpr c8
                subst c8
                have H1 : (some false) = some r := by rw [if_neg (show ¬ (false = true) by decide)] at H; exact H
                clear H
                have H := H1
                clear H1
                obtain rfl := Option.some.inj H
                have p251 : 0 ≤ (x7_1 : Int) := odt
                have q251 : x7_1 < (l0.length : Int) := odt
                obtain ⟨ad251, e251, hx251_0, hx251_1⟩ := at_T84 HR0.out x7_1 p251 q251
                cases e251
                replace hx251_0 := (HB.out.cell (World.block_lt_of_cell? w _ hx251_0)).trans hx251_0
                replace hx251_1 := (HB.out.cell (World.block_lt_of_cell? w _ hx251_1)).trans hx251_1
                replace p251 := eq_true p251
                replace q251 := eq_true q251
                try go_wp2_with (((with_reducible refine gate_dst (N := 4) rfl ?_); refine bE (N := 4) (cs := #[.string (⟨#[]⟩ : ByteArray), .int .i64 0]) (t := 84) ?_; intro gb252 hg w29 hbox hb; have n0_ := Aside0.mk (below_step (w := w) bW hb); have n1_ := Aside0.mk (hbox); have n2_ := Aside0.mk (gS (w := w) hg); have n3_ := n2_; clear HB; have HB := n0_; have BK252 := n1_; have GW252 := n2_; have GE252 := n3_; clear n0_ n1_ n2_ n3_; clear hb hbox hg; obtain ⟨hcz30_0, hcz30_1⟩ := cz2 BK252; obtain ⟨hfz30_0, hfz30_1⟩ := fz2 BK252))
                have n0_ : Aside0 (((w29.setCell ⟨gb252, 0, none⟩ (.string ((rd_T84 l0 x7_1).f0))).setCell ⟨gb252, 1, none⟩ (.int .i64 ((rd_T84 l0 x7_1).f1))).heap[gb252]? = some (.cells #[.string ((rd_T84 l0 x7_1).f0), .int .i64 ((rd_T84 l0 x7_1).f1)] 84 (0, 0))) := ⟨by refine blk_put (cs := #[.string ((rd_T84 l0 x7_1).f0), .int .i64 0]) ?_ 1 _ rfl; refine blk_put (cs := #[.string (⟨#[]⟩ : ByteArray), .int .i64 0]) ?_ 0 _ rfl; exact BK252.out⟩
                have n1_ : Aside0 (Below w.heap.size w ((w29.setCell ⟨gb252, 0, none⟩ (.string ((rd_T84 l0 x7_1).f0))).setCell ⟨gb252, 1, none⟩ (.int .i64 ((rd_T84 l0 x7_1).f1)))) := ⟨bW⟩
                (try clear BK252)
                (try clear HB)
                generalize ((w29.setCell ⟨gb252, 0, none⟩ (.string ((rd_T84 l0 x7_1).f0))).setCell ⟨gb252, 1, none⟩ (.int .i64 ((rd_T84 l0 x7_1).f1))) = w31 at n0_ n1_ ⊢
                have BK252 := n0_
                have HB := n1_
                clear n0_ n1_
                have n0_ := Aside0.mk (blk_drew BK252.out)
                have n1_ := Aside0.mk (below_drew1 HB.out)
                clear BK252
                clear HB
                have BK252 := n0_
                have HB := n1_
                clear n0_ n1_
                refine start_ (n := 25) (S := fun w' => w'.cell? ⟨gb252, 0, none⟩ = some (.string ((rd_T84 l0 x7_1).f0)) ∧ w'.cell? ⟨gb252, 1, none⟩ = some (.int .i64 ((rd_T84 l0 x7_1).f1))) (ds := []) (bs 25 0) (by kernel_rfl) rfl rfl ⟨(blk_cell BK252.out 0).trans rfl, (blk_cell BK252.out 1).trans rfl⟩ (fun hHeld => ?_); refine with_tabW impl_MapOK.tab4 impl_MapOK.bits4 (fun HT_ HW_ => ?_)
                generalize w31.drew = w32 at BK252 HB hHeld ⊢
                refine pz 0 12 (bs 25 1) HT_ ?_
                refine tz 1 13 (bs 25 3) HT_ HW_ hHeld ?_
                refine one_ (i := 2) (N := some 14) (bs 25 7) rfl rfl (one_of HT_.out (by kernel_rfl)) (by decide) (fun K hK => ?_)
                refine goes_ Tryz.func57 (by kernel_rfl) rfl #[.string ((rd_T84 l0 x7_1).f0)] (by rfl) rfl rfl gA ?_
                with_reducible refine (impl_NameOK.calls ((rd_T84 l0 x7_1).f0) true _ A5.out).mono ?_
                rintro e w33 ⟨rfl, hb⟩
                refine ⟨_, rfl, ?_⟩
                have n0_ := Aside0.mk (kb BK252 hb)
                have n1_ := Aside0.mk (below_step (w := w) bW hb)
                clear BK252
                clear HB
                have BK252 := n0_
                have HB := n1_
                clear n0_ n1_
                (try clear hb)
                refine hK.out _ _ ⟨(blk_cell BK252.out 0).trans rfl, (blk_cell BK252.out 1).trans rfl⟩ (fun hHeld => ?_)
                clear hK K
                refine norm_ (a' := ?_) ?_ ?_
                rotate_left
                · show Act.put _ (some 14) _ = _
                  simp only [Act.put, List.setIfInBounds_toArray, List.set_cons_zero, List.set_cons_succ, i64_w, i32_w]
                  rfl
                refine pz 3 15 (bs 25 15) HT_ ?_
                refine pz 4 16 (bs 25 31) HT_ ?_
                refine pz 5 17 (bs 25 63) HT_ ?_
                refine tz 6 18 (bs 25 127) HT_ HW_ hHeld ?_
                refine one_ (i := 7) (N := some 19) (bs 25 255) rfl rfl (one_of HT_.out (by kernel_rfl)) (by decide) (fun K hK => ?_)
                refine goes_ Tryz.func141 (by kernel_rfl) rfl #[.int .i64 ((rd_T84 l0 x7_1).f1)] (by rfl) rfl rfl gA ?_
                with_reducible refine (impl_isValue.calls ((rd_T84 l0 x7_1).f1) false _ A7.out).mono ?_
                rintro e w' ⟨rfl, ⟨nd, rfl⟩⟩
                refine ⟨_, rfl, ?_⟩
                refine hK.out _ _ ⟨(blk_cell BK252.out 0).trans rfl, (blk_cell BK252.out 1).trans rfl⟩ (fun hHeld => ?_)
                clear hK K
                refine norm_ (a' := ?_) ?_ ?_
                rotate_left
                · show Act.put _ (some 19) _ = _
                  simp only [Act.put, List.setIfInBounds_toArray, List.set_cons_zero, List.set_cons_succ, i64_w, i32_w]
                  rfl
                refine pz 8 20 (bs 25 511) HT_ ?_
                refine pz 9 21 (bs 25 1023) HT_ ?_
                refine pz 10 22 (bs 25 2047) HT_ ?_
                refine uz 11 23 (bs 25 4095) HT_ ?_
                refine uz 12 24 (bs 25 8191) HT_ ?_
                refine uz 13 25 (bs 25 16383) HT_ ?_
                refine uz 14 26 (bs 25 32767) HT_ ?_
                refine uz 15 27 (bs 25 65535) HT_ ?_
                refine uz 16 28 (bs 25 131071) HT_ ?_
                refine uz 17 29 (bs 25 262143) HT_ ?_
                refine uz 18 30 (bs 25 524287) HT_ ?_
                refine uz 19 31 (bs 25 1048575) HT_ ?_
                refine uz 20 32 (bs 25 2097151) HT_ ?_
                refine uz 21 33 (bs 25 4194303) HT_ ?_
                refine uz 22 34 (bs 25 8388607) HT_ ?_
                refine uz 23 35 (bs 25 16777215) HT_ ?_
                refine pz 24 36 (bs 25 33554431) HT_ ?_
                refine done_ (done_of HT_.out (by kernel_rfl)) ?_
                try go_wp2
                go_ret
                exact ⟨rE, bW⟩
            · replace c6 := Bool.eq_false_iff.mpr c6
              subst c6
              have H1 : (some false) = some r := by rw [if_neg (show ¬ (false = true) by decide)] at H; exact H
              clear H
              have H := H1
              clear H1
              obtain rfl := Option.some.inj H
              have p251 : 0 ≤ (x7_1 : Int) := odt
              have q251 : x7_1 < (l0.length : Int) := odt
              obtain ⟨ad251, e251, hx251_0, hx251_1⟩ := at_T84 HR0.out x7_1 p251 q251
              cases e251
              replace hx251_0 := (HB.out.cell (World.block_lt_of_cell? w _ hx251_0)).trans hx251_0
              replace hx251_1 := (HB.out.cell (World.block_lt_of_cell? w _ hx251_1)).trans hx251_1
              replace p251 := eq_true p251
              replace q251 := eq_true q251
              try go_wp2_with (((with_reducible refine gate_dst (N := 4) rfl ?_); refine bE (N := 4) (cs := #[.string (⟨#[]⟩ : ByteArray), .int .i64 0]) (t := 84) ?_; intro gb252 hg w34 hbox hb; have n0_ := Aside0.mk (below_step (w := w) bW hb); have n1_ := Aside0.mk (hbox); have n2_ := Aside0.mk (gS (w := w) hg); have n3_ := n2_; clear HB; have HB := n0_; have BK252 := n1_; have GW252 := n2_; have GE252 := n3_; clear n0_ n1_ n2_ n3_; clear hb hbox hg; obtain ⟨hcz35_0, hcz35_1⟩ := cz2 BK252; obtain ⟨hfz35_0, hfz35_1⟩ := fz2 BK252))
              have n0_ : Aside0 (((w34.setCell ⟨gb252, 0, none⟩ (.string ((rd_T84 l0 x7_1).f0))).setCell ⟨gb252, 1, none⟩ (.int .i64 ((rd_T84 l0 x7_1).f1))).heap[gb252]? = some (.cells #[.string ((rd_T84 l0 x7_1).f0), .int .i64 ((rd_T84 l0 x7_1).f1)] 84 (0, 0))) := ⟨by refine blk_put (cs := #[.string ((rd_T84 l0 x7_1).f0), .int .i64 0]) ?_ 1 _ rfl; refine blk_put (cs := #[.string (⟨#[]⟩ : ByteArray), .int .i64 0]) ?_ 0 _ rfl; exact BK252.out⟩
              have n1_ : Aside0 (Below w.heap.size w ((w34.setCell ⟨gb252, 0, none⟩ (.string ((rd_T84 l0 x7_1).f0))).setCell ⟨gb252, 1, none⟩ (.int .i64 ((rd_T84 l0 x7_1).f1)))) := ⟨bW⟩
              (try clear BK252)
              (try clear HB)
              generalize ((w34.setCell ⟨gb252, 0, none⟩ (.string ((rd_T84 l0 x7_1).f0))).setCell ⟨gb252, 1, none⟩ (.int .i64 ((rd_T84 l0 x7_1).f1))) = w36 at n0_ n1_ ⊢
              have BK252 := n0_
              have HB := n1_
              clear n0_ n1_
              have n0_ := Aside0.mk (blk_drew BK252.out)
              have n1_ := Aside0.mk (below_drew1 HB.out)
              clear BK252
              clear HB
              have BK252 := n0_
              have HB := n1_
              clear n0_ n1_
              refine start_ (n := 25) (S := fun w' => w'.cell? ⟨gb252, 0, none⟩ = some (.string ((rd_T84 l0 x7_1).f0)) ∧ w'.cell? ⟨gb252, 1, none⟩ = some (.int .i64 ((rd_T84 l0 x7_1).f1))) (ds := []) (bs 25 0) (by kernel_rfl) rfl rfl ⟨(blk_cell BK252.out 0).trans rfl, (blk_cell BK252.out 1).trans rfl⟩ (fun hHeld => ?_); refine with_tabW impl_MapOK.tab4 impl_MapOK.bits4 (fun HT_ HW_ => ?_)
              generalize w36.drew = w37 at BK252 HB hHeld ⊢
              refine pz 0 12 (bs 25 1) HT_ ?_
              refine tz 1 13 (bs 25 3) HT_ HW_ hHeld ?_
              refine one_ (i := 2) (N := some 14) (bs 25 7) rfl rfl (one_of HT_.out (by kernel_rfl)) (by decide) (fun K hK => ?_)
              refine goes_ Tryz.func57 (by kernel_rfl) rfl #[.string ((rd_T84 l0 x7_1).f0)] (by rfl) rfl rfl gA ?_
              with_reducible refine (impl_NameOK.calls ((rd_T84 l0 x7_1).f0) false _ A5.out).mono ?_
              rintro e w38 ⟨rfl, hb⟩
              refine ⟨_, rfl, ?_⟩
              have n0_ := Aside0.mk (kb BK252 hb)
              have n1_ := Aside0.mk (below_step (w := w) bW hb)
              clear BK252
              clear HB
              have BK252 := n0_
              have HB := n1_
              clear n0_ n1_
              (try clear hb)
              refine hK.out _ _ ⟨(blk_cell BK252.out 0).trans rfl, (blk_cell BK252.out 1).trans rfl⟩ (fun hHeld => ?_)
              clear hK K
              refine norm_ (a' := ?_) ?_ ?_
              rotate_left
              · show Act.put _ (some 14) _ = _
                simp only [Act.put, List.setIfInBounds_toArray, List.set_cons_zero, List.set_cons_succ, i64_w, i32_w]
                rfl
              refine pz 3 15 (bs 25 15) HT_ ?_
              refine pz 4 16 (bs 25 31) HT_ ?_
              refine uz 5 17 (bs 25 63) HT_ ?_
              refine uz 6 18 (bs 25 127) HT_ ?_
              refine uz 7 19 (bs 25 255) HT_ ?_
              refine uz 8 20 (bs 25 511) HT_ ?_
              refine pz 9 21 (bs 25 1023) HT_ ?_
              refine pz 10 22 (bs 25 2047) HT_ ?_
              refine uz 11 23 (bs 25 4095) HT_ ?_
              refine uz 12 24 (bs 25 8191) HT_ ?_
              refine uz 13 25 (bs 25 16383) HT_ ?_
              refine uz 14 26 (bs 25 32767) HT_ ?_
              refine uz 15 27 (bs 25 65535) HT_ ?_
              refine uz 16 28 (bs 25 131071) HT_ ?_
              refine uz 17 29 (bs 25 262143) HT_ ?_
              refine uz 18 30 (bs 25 524287) HT_ ?_
              refine uz 19 31 (bs 25 1048575) HT_ ?_
              refine uz 20 32 (bs 25 2097151) HT_ ?_
              refine uz 21 33 (bs 25 4194303) HT_ ?_
              refine uz 22 34 (bs 25 8388607) HT_ ?_
              refine uz 23 35 (bs 25 16777215) HT_ ?_
              refine pz 24 36 (bs 25 33554431) HT_ ?_
              refine done_ (done_of HT_.out (by kernel_rfl)) ?_
              try go_wp2
              go_ret
              exact ⟨rE, bW⟩
          · rw [if_neg c4] at H
            exact absurd H (by simp)
        · rw [if_neg c3] at H
          exact absurd H (by simp)
      · rw [if_neg c2] at H
        have c2b0 : decide (x7_1 < (l0.length : Int)) = false := decide_eq_false c2
        clear c2
        obtain rfl := Option.some.inj H
        go_wp2
        go_ret
        exact ⟨rE, bW⟩
end Go.Proofs.YtblejbgkcgajgaaGreat.Q
end

section
namespace Go.Proofs.YtblejbgkcgajgaaGreat.Q
open Go.RowKit Go.Proofs.YtblejbgkcgajgaaGreatW.PrintWords Go.Proofs.YtblejbgkcgajgaaGreatW.PrintLast Go.Proofs.YtblejbgkcgajgaaGreatW.PrintMore
attribute [local go_sem] max2_int min2_int max_two min_two max_three min_three max_four min_four   -- for this text's walks alone
set_option linter.unusedVariables false
set_option linter.unusedSimpArgs false
attribute [local go_sem] bin_leq bin_gtr bin_geq
def Asks_int (g : Nat) (lb : Array Value) (p : Int → Bool) (w : World) (l : List Int) : Prop :=
  ∀ (W : World) (x : Int), Below w.heap.size w W → x ∈ l → Calls Tryz.prog g (#[.int .i64 x] ++ lb) W fun e w' => e = .returned (.bool (p x)) ∧ Below W.heap.size W w'
set_option maxHeartbeats 2000000 in
set_option maxRecDepth 100000 in
theorem idxF_int (g : Nat) (lb : Array Value) (eg : ∀ args w, (callFunc g args).run Tryz.prog w = .ok (.enter g args) w) (p : Int → Bool) (A0 : Option Addr) (c0 : Nat) (l0 : List Int) (w : World) (hr0 : Kd.C (Kd.int .i64) w A0 l0.length l0) (hc0 : l0.length ≤ c0) (hp : Asks_int g lb p w l0) :
    Calls Tryz.prog 123 #[.slice A0 l0.length c0, .func (.func g) #[] lb] w fun e w' => e = .returned (.int .i64 (idxI p l0)) ∧ Below w.heap.size w w' := by
  have HM : l0.length ≤ 9223372036854775807 := hr0.2.1
  have HR0 := Aside0.mk hr0
  have HP := Aside0.mk hp
  clear hr0 hc0 hp
  go_enter Tryz.func123, Tryz.ntmps123
  go_wp2
  go_loopg [8] l0.length (fun gk v8 w' => ∃ kk : Nat, kk ≤ l0.length ∧ l0.length - kk ≤ gk ∧ v8 = .int .i64 kk ∧ Aside0 (∀ j (hj : j < l0.length), j < kk → p l0[j] = false) ∧ Aside0 (Below w.heap.size w w'))
  case atStart => exact ⟨0, Nat.zero_le _, by omega, rfl, ⟨fun j hj h => absurd h (Nat.not_lt_zero _)⟩, ⟨Below.refl _ _⟩⟩
  case round =>
    obtain ⟨kk, hkk, hg, rfl, HA, HB⟩ := hrel
    by_cases hlt : kk < l0.length
    · have hltz : (kk : Int) < (l0.length : Int) := by omega
      have HRW := Aside0.mk (Kd.C_below HR0.out HB.out)
      obtain ⟨ad, e1, hx⟩ := Kd.at_int HRW.out (kk : Int) (by omega) hltz
      cases e1
      have ex : rd l0 (kk : Int) = l0[kk] := by simp [rd, List.getD_eq_getElem?_getD, List.getElem?_eq_getElem hlt]
      rw [ex] at hx
      simp only [Int.toNat_natCast] at hx
      have hcall := HP.out _ l0[kk] HB.out (List.getElem_mem hlt)
      obtain ⟨y, hy⟩ : ∃ y, y = l0[kk] := ⟨_, rfl⟩
      rw [← hy] at hx hcall
      have HY := Aside0.mk hy
      clear hy ex
      cases hq : p y with
      | true =>
        rw [hq] at hcall
        have HC := Aside0.mk hcall
        have HQ := Aside0.mk hq
        clear hcall hq
        go_wp2_with ((with_reducible refine HC.out.mono ?_); rintro e w' ⟨rfl, hb'⟩)
        go_ret
        refine ⟨?_, below_then HB.out HB.out.size hb'⟩
        rw [idxI_some hlt (fun j hj => HA.out j (by omega) hj) (by rw [← HY.out]; exact HQ.out)]; rfl
      | false =>
        rw [hq] at hcall
        have HC := Aside0.mk hcall
        have HQ := Aside0.mk hq
        clear hcall hq
        go_wp2_with ((with_reducible refine HC.out.mono ?_); rintro e w' ⟨rfl, hb'⟩)
        go_roundg (l0.length - (kk + 1))
        case measure => omega
        case rel =>
          refine ⟨kk + 1, by omega, by omega, by go_num, ⟨fun j hj h => ?_⟩, ⟨below_then HB.out HB.out.size hb'⟩⟩
          by_cases e : j = kk
          · subst e
            rw [← HY.out]; exact HQ.out
          · exact HA.out j hj (by omega)
    · have hltz : ¬ (kk : Int) < (l0.length : Int) := by omega
      obtain rfl : kk = l0.length := by omega
      go_wp2
      go_ret
      exact ⟨by rw [idxI_none (fun j hj => HA.out j hj (by omega))]; rfl, HB.out⟩
end Go.Proofs.YtblejbgkcgajgaaGreat.Q
end

section
namespace Go.Proofs.YtblejbgkcgajgaaGreat.Q
open Go.RowKit Go.Proofs.YtblejbgkcgajgaaGreatW.PrintWords Go.Proofs.YtblejbgkcgajgaaGreatW.PrintLast Go.Proofs.YtblejbgkcgajgaaGreatW.PrintMore
attribute [local go_sem] max2_int min2_int max_two min_two max_three min_three max_four min_four   -- for this text's walks alone
set_option linter.unusedVariables false
set_option linter.unusedSimpArgs false
attribute [local go_sem] bin_leq bin_gtr bin_geq
set_option maxHeartbeats 2000000 in
set_option maxRecDepth 100000 in
theorem hasF_int (g : Nat) (lb : Array Value) (eg : ∀ args w, (callFunc g args).run Tryz.prog w = .ok (.enter g args) w) (p : Int → Bool) (A0 : Option Addr) (c0 : Nat) (l0 : List Int) (w : World) (hr0 : Kd.C (Kd.int .i64) w A0 l0.length l0) (hc0 : l0.length ≤ c0) (hp : Asks_int g lb p w l0) :
    Calls Tryz.prog 99 #[.slice A0 l0.length c0, .func (.func g) #[] lb] w fun e w' => e = .returned (.bool (decide (0 ≤ idxI p l0))) ∧ Below w.heap.size w w' := by
  have HR0 := Aside0.mk hr0
  have HC0 := Aside0.mk hc0
  have HP := Aside0.mk hp
  have HE := Aside0.mk eg
  clear hr0 hc0 hp eg
  go_enter Tryz.func99, Tryz.ntmps99
  go_wp2_with (refine (idxF_int g lb HE.out p A0 c0 l0 _ HR0.out HC0.out HP.out).mono ?_; rintro e w' ⟨rfl, hb⟩)
  go_ret
  exact ⟨rfl, hb⟩
theorem notF_int (g : Nat) (lb : Array Value) (eg : ∀ args w, (callFunc g args).run Tryz.prog w = .ok (.enter g args) w) (p : Int → Bool) (l : List Int) (w : World) (B : Nat) (hB : B < w.heap.size) (hc : w.cell? ⟨B, 0, none⟩ = some (.func (.func g) #[] lb)) (hp : Asks_int g lb p w l) :
    Asks_int 100 #[.pointer (some ⟨B, 0, none⟩)] (fun x => !p x) w l := by
  intro W x hW hx
  have hc' : W.cell? ⟨B, 0, none⟩ = some (.func (.func g) #[] lb) := (hW.cell (p := ⟨B, 0, none⟩) hB).trans hc
  have hB' : B < W.heap.size := Nat.lt_of_lt_of_le hB hW.size
  have HC := Aside0.mk (hp W x hW hx)
  clear hp hx hc
  go_enter Tryz.func100, Tryz.ntmps100
  go_wp2_with (refine HC.out.mono ?_; rintro e w' ⟨rfl, hb⟩)
  go_ret
  exact ⟨rfl, hb⟩
set_option maxHeartbeats 2000000 in
set_option maxRecDepth 100000 in
theorem allF_int (g : Nat) (lb : Array Value) (eg : ∀ args w, (callFunc g args).run Tryz.prog w = .ok (.enter g args) w) (p : Int → Bool) (A0 : Option Addr) (c0 : Nat) (l0 : List Int) (w : World) (hr0 : Kd.C (Kd.int .i64) w A0 l0.length l0) (hc0 : l0.length ≤ c0) (hp : Asks_int g lb p w l0) :
    Calls Tryz.prog 73 #[.slice A0 l0.length c0, .func (.func g) #[] lb] w fun e w' => e = .returned (.bool (l0.all p)) ∧ Below w.heap.size w w' := by
  have e94 := idxI_all p l0
  have HN := Aside0.mk e94
  have HB0 : Below w.heap.size w (w.alloc (.cells #[.func (.func g) #[] lb] 112)) := (Below.refl _ _).alloc (Nat.le_refl _) _
  have HR0 := Aside0.mk (Kd.C_below hr0 HB0)
  have HP := Aside0.mk (notF_int g lb eg p l0 (w.alloc (.cells #[.func (.func g) #[] lb] 112)) w.heap.size (by simp) (by simp) (fun W x hW hx => hp W x (below_then HB0 HB0.size hW) hx))
  have HC0 := Aside0.mk hc0
  have HBA := Aside0.mk HB0
  clear hr0 hc0 hp eg e94 HB0
  go_enter Tryz.func73, Tryz.ntmps73
  go_wp2_with (refine (hasF_int 100 #[.pointer (some ⟨w.heap.size, 0, none⟩)] (enters_ Tryz.func100 (by kernel_rfl) rfl) (fun x => !p x) A0 c0 l0 _ HR0.out HC0.out HP.out).mono ?_; rintro e w' ⟨rfl, hb⟩)
  go_ret
  refine ⟨?_, below_then HBA.out HBA.out.size hb⟩
  show Ending.returned (.bool (!decide (0 ≤ idxI (fun x => !p x) l0))) = _
  rw [HN.out]
end Go.Proofs.YtblejbgkcgajgaaGreat.Q
end

section
namespace Go.Proofs.YtblejbgkcgajgaaGreat.Q
open Go.RowKit Go.Proofs.YtblejbgkcgajgaaGreatW.PrintWords Go.Proofs.YtblejbgkcgajgaaGreatW.PrintLast Go.Proofs.YtblejbgkcgajgaaGreatW.PrintMore
attribute [local go_sem] max2_int min2_int max_two min_two max_three min_three max_four min_four   -- for this text's walks alone
set_option linter.unusedVariables false
set_option linter.unusedSimpArgs false
attribute [local go_sem] bin_leq bin_gtr bin_geq
def areAllint_isAt.f (l0 : List Int) (a1 : Int) : Option (Bool) := if -9223372036854775807 ≤ a1 then (if a1 ≤ 9223372036854775807 then some (l0.all (fun x => inB x 1 (a1 - 1))) else none) else none
theorem within_f (a b c : Int) : impl_within.f a b c = some (inB a b c) := by
  unfold impl_within.f inB
  by_cases h : b ≤ a <;> simp [h]
theorem isAt_asks (a1 : Int) (h0 : -9223372036854775807 ≤ a1) (h1 : a1 ≤ 9223372036854775807) (B : Nat) (l : List Int) (w : World) (hB : B < w.heap.size) (hc : w.cell? ⟨B, 0, none⟩ = some (.int .i64 a1)) :
    Asks_int 137 #[.pointer (some ⟨B, 0, none⟩)] (fun x => inB x 1 (a1 - 1)) w l := by
  intro W x hW hx
  have hc' : W.cell? ⟨B, 0, none⟩ = some (.int .i64 a1) := (hW.cell (p := ⟨B, 0, none⟩) hB).trans hc
  have A2 := Aside0.mk (within_f x 1 (a1 - 1))
  clear hx hW hc hB
  go_enter Tryz.func137, Tryz.ntmps137
  go_wp2_with (go_at_call 58; (with_reducible refine (impl_within.calls _ _ _ _ _ A2.out).mono ?_); rintro e w' ⟨rfl, ⟨n, rfl⟩⟩)
  go_ret
  exact ⟨rfl, by repeat (first | exact Below.refl _ _ | apply pw_below_drewN)⟩
theorem areAllint_isAt.calls (A0 : Option Addr) (c0 : Nat) (l0 : List Int) (a1 : Int) {B : Nat} (r : Bool) (w : World) (hr0 : Kd.C (Kd.int .i64) w A0 l0.length l0) (hc0 : l0.length ≤ c0) (hk : w.heap[B]? = some (.cells #[.int .i64 a1] 3 (0, 0))) (h : areAllint_isAt.f l0 a1 = some r) :
    Calls Tryz.prog 73 #[.slice A0 l0.length c0, .func (.func 137) #[] #[.pointer (some ⟨B, 0, none⟩)]] w fun e w' => e = .returned (.bool r) ∧ Below w.heap.size w w' := by
  unfold areAllint_isAt.f at h
  by_cases h0 : -9223372036854775807 ≤ a1
  · rw [if_pos h0] at h
    by_cases h1 : a1 ≤ 9223372036854775807
    · rw [if_pos h1] at h
      obtain rfl := Option.some.inj h
      exact allF_int 137 #[.pointer (some ⟨B, 0, none⟩)] (enters_ Tryz.func137 (by kernel_rfl) rfl) _ A0 c0 l0 w hr0 hc0 (isAt_asks a1 h0 h1 B l0 w (blk_lt hk) ((blk_cell hk 0).trans rfl))
    · rw [if_neg h1] at h
      cases h
  · rw [if_neg h0] at h
    cases h
end Go.Proofs.YtblejbgkcgajgaaGreat.Q
end

section
namespace Go.Proofs.YtblejbgkcgajgaaGreat.Q
open Go.RowKit Go.Proofs.YtblejbgkcgajgaaGreatW.PrintWords Go.Proofs.YtblejbgkcgajgaaGreatW.PrintLast Go.Proofs.YtblejbgkcgajgaaGreatW.PrintMore
attribute [local go_sem] max2_int min2_int max_two min_two max_three min_three max_four min_four   -- for this text's walks alone
set_option linter.unusedVariables false
set_option linter.unusedSimpArgs false
attribute [local go_sem] bin_leq bin_gtr bin_geq
def impl_Commit_isAt.f (k : Nat) (l0_0 : List Int) (l0_1 : List (S84)) (a1 : Int) : Option (Bool) := (impl_MapOK.f k l0_1).bind fun t258 => (if t258 = true then (if (l0_0.length : Int) > 2 then (some false) else (if (((l0_0.length : Int) == 0) != (a1 == 1)) = true then (some false) else (if (l0_0.length : Int) = 2 then (if 0 < (l0_0.length : Int) then (if 1 < (l0_0.length : Int) then (if (rd l0_0 0) = (rd l0_0 1) then (some false) else ((areAllint_isAt.f l0_0 a1).bind fun t261 => (some t261))) else (none)) else (none)) else ((areAllint_isAt.f l0_0 a1).bind fun t262 => (some t262))))) else (some false))
def impl_Commit_isAt.T2 : Bool × List (List Nat × List Nat) := (true, [([], []), ([0], [0]), ([1], [1]), ([2], [2]), ([3, 2], [3]), ([4], [4]), ([5, 4], [4, 5]), ([4, 6], [4, 6]), ([7, 4], [7]), ([8], [8]), ([9, 8], [8, 9]), ([8], [8]), ([11, 8], [8, 11]), ([10, 12, 8], [8, 10, 12]), ([8, 13], [8, 13]), ([14, 8], [14]), ([15], [15]), ([16, 15], [15, 16]), ([17, 15, 15], [15, 17]), ([18], [18]), ([19, 18], [18, 19]), ([20, 18], [18, 20]), ([21, 18], [18, 21]), ([18], [18]), ([23, 18], [18, 23]), ([24, 18], [18, 24]), ([25, 18], [18, 25]), ([22, 26, 18], [18, 22, 26]), ([18, 27, 15], [15, 18, 27]), ([15, 28], [15, 28])])
def impl_Commit_isAt.B2 : List Nat := [0, 1, 3, 7, 15, 31, 63, 127, 255, 511, 1023, 511, 2559, 8191, 16383, 32767, 65535, 131071, 262143, 524287, 1048575, 2097151, 4194303, 524287, 8912895, 25690111, 59244543, 134217727, 268435455, 536870911]
theorem impl_Commit_isAt.tab2 : rtab .any (opsOf Tryz.f122 2) = impl_Commit_isAt.T2 := by kernel_rfl
theorem impl_Commit_isAt.bits2 : waitsOk impl_Commit_isAt.T2.2 impl_Commit_isAt.B2 = true := by kernel_rfl
set_option maxHeartbeats 8000000 in
set_option maxRecDepth 100000 in
theorem impl_Commit_isAt.calls (k : Nat) (A0_0 : Option Addr) (c0_0 : Nat) (l0_0 : List Int) (A0_1 : Option Addr) (c0_1 : Nat) (l0_1 : List (S84)) (a1 : Int) (r : Bool) (w : World) (hr0_0 : Kd.C (Kd.int .i64) w A0_0 l0_0.length l0_0) (hc0_0 : l0_0.length ≤ c0_0) (hr0_1 : Kd.C k84 w A0_1 l0_1.length l0_1) (hc0_1 : l0_1.length ≤ c0_1) (h : impl_Commit_isAt.f k l0_0 l0_1 a1 = some r) :
    Calls Tryz.prog 122 #[.agg #[.slice A0_0 l0_0.length c0_0, .slice A0_1 l0_1.length c0_1], .int .i64 a1] w fun e w' => e = .returned (.bool r) ∧ Below w.heap.size w w' := by
  have hu64 := Tryz.underlying64
  have HR0_0 := Aside0.mk hr0_0
  have HC0_0 := Aside0.mk hc0_0
  clear hr0_0 hc0_0
  have HR0_1 := Aside0.mk hr0_1
  have HC0_1 := Aside0.mk hc0_1
  clear hr0_1 hc0_1
  have HB := Aside0.mk (Below.refl w.heap.size w)
  have H : ((impl_MapOK.f k l0_1).bind fun t258 => (if t258 = true then (if (l0_0.length : Int) > 2 then (some false) else (if (((l0_0.length : Int) == 0) != (a1 == 1)) = true then (some false) else (if (l0_0.length : Int) = 2 then (if 0 < (l0_0.length : Int) then (if 1 < (l0_0.length : Int) then (if (rd l0_0 0) = (rd l0_0 1) then (some false) else ((areAllint_isAt.f l0_0 a1).bind fun t261 => (some t261))) else (none)) else (none)) else ((areAllint_isAt.f l0_0 a1).bind fun t262 => (some t262))))) else (some false))) = some r := h
  clear h
  replace H := Option.bind_eq_some_iff.mp H
  obtain ⟨t258, A30, H⟩ := H
  replace H : (if t258 = true then (if (l0_0.length : Int) > 2 then (some false) else (if (((l0_0.length : Int) == 0) != (a1 == 1)) = true then (some false) else (if (l0_0.length : Int) = 2 then (if 0 < (l0_0.length : Int) then (if 1 < (l0_0.length : Int) then (if (rd l0_0 0) = (rd l0_0 1) then (some false) else ((areAllint_isAt.f l0_0 a1).bind fun t261 => (some t261))) else (none)) else (none)) else ((areAllint_isAt.f l0_0 a1).bind fun t262 => (some t262))))) else (some false)) = some r := H
  have A3 := Aside0.mk A30
  clear A30
  by_cases c4 : t258 = true
  · subst c4
    have H1 : (if (l0_0.length : Int) > 2 then (some false) else (if (((l0_0.length : Int) == 0) != (a1 == 1)) = true then (some false) else (if (l0_0.length : Int) = 2 then (if 0 < (l0_0.length : Int) then (if 1 < (l0_0.length : Int) then (if (rd l0_0 0) = (rd l0_0 1) then (some false) else ((areAllint_isAt.f l0_0 a1).bind fun t261 => (some t261))) else (none)) else (none)) else ((areAllint_isAt.f l0_0 a1).bind fun t262 => (some t262))))) = some r := by rw [if_pos rfl] at H; exact H
    clear H
    have H := H1
    clear H1
    by_cases c5 : (l0_0.length : Int) > 2
    · rw [if_pos c5] at H
      have c5b0 : decide (2 < (l0_0.length : Int)) = true := decide_eq_true c5
      have c5b1 : decide (2 < l0_0.length) = true := decide_eq_true (by omega)
      clear c5
      obtain rfl := Option.some.inj H
      go_enter Tryz.func122, Tryz.ntmps122
      try go_wp2_with (first | ((with_reducible refine gate_dst (N := 2) rfl ?_); refine bE (N := 2) (cs := #[.slice A0_0 l0_0.length c0_0, .slice A0_1 l0_1.length c0_1]) (t := 64) ?_; intro gb256 hg w6 hbox hb; have n0_ := Aside0.mk (below_step (w := w) bW hb); have n1_ := Aside0.mk (hbox); have n2_ := Aside0.mk (gS (w := w) hg); have n3_ := n2_; clear HB; have HB := n0_; have BK256 := n1_; have GW256 := n2_; have GE256 := n3_; clear n0_ n1_ n2_ n3_; clear hb hbox hg) | ((with_reducible refine gate_dst (N := 3) rfl ?_); refine bE (N := 3) (cs := #[.int .i64 a1]) (t := 3) ?_; intro gb257 hg w7 hbox hb; have n0_ := Aside0.mk (kb BK256 hb); have n1_ := Aside0.mk (below_step (w := w) bW hb); have n2_ := Aside0.mk (hbox); have n3_ := Aside0.mk (gS (w := w) hg); have n4_ := n3_; have n5_ := Aside0.mk (nL BK256 hg); have n6_ := Aside0.mk (nG BK256 hg); clear BK256; clear HB; have BK256 := n0_; have HB := n1_; have BK257 := n2_; have GW257 := n3_; have GE257 := n4_; have NB256_257 := n5_; have NB257_256 := n6_; clear n0_ n1_ n2_ n3_ n4_ n5_ n6_; clear hb hbox hg; have hnb8 := NB256_257.out; have hnc8 := NB257_256.out; obtain ⟨hcz9_0, hcz9_1⟩ := cz2 BK256; obtain ⟨hfz9_0, hfz9_1⟩ := fz2 BK256))
      have n0_ := Aside0.mk (blk_drew BK256.out)
      have n1_ := Aside0.mk (blk_drew BK257.out)
      have n2_ := Aside0.mk (below_drew1 HB.out)
      clear BK256
      clear BK257
      clear HB
      have BK256 := n0_
      have BK257 := n1_
      have HB := n2_
      clear n0_ n1_ n2_
      refine start_ (n := 30) (S := fun w' => w'.cell? ⟨gb256, 0, none⟩ = some (.slice A0_0 l0_0.length c0_0) ∧ w'.cell? ⟨gb256, 1, none⟩ = some (.slice A0_1 l0_1.length c0_1)) (ds := []) (bs 30 0) (by kernel_rfl) rfl rfl ⟨(blk_cell BK256.out 0).trans rfl, (blk_cell BK256.out 1).trans rfl⟩ (fun hHeld => ?_); refine with_tabW impl_Commit_isAt.tab2 impl_Commit_isAt.bits2 (fun HT_ HW_ => ?_)
      generalize w7.drew = w10 at BK256 BK257 HB hHeld ⊢
      refine pz 0 9 (bs 30 1) HT_ ?_
      refine tz 1 10 (bs 30 3) HT_ HW_ hHeld ?_
      refine one_ (i := 2) (N := some 11) (bs 30 7) rfl rfl (one_of HT_.out (by kernel_rfl)) (by decide) (fun K hK => ?_)
      refine goes_ Tryz.func136 (by kernel_rfl) rfl #[.slice A0_1 l0_1.length c0_1] (by rfl) rfl rfl gA ?_
      with_reducible refine (impl_MapOK.calls k _ _ l0_1 true _ ?side1 ?side2 A3.out).mono ?_
      (case side1 => exact cB HR0_1)
      (case side2 => exact HC0_1.out)
      rintro e w11 ⟨rfl, hb⟩
      refine ⟨_, rfl, ?_⟩
      have n0_ := Aside0.mk (kb BK256 hb)
      have n1_ := Aside0.mk (kb BK257 hb)
      have n2_ := Aside0.mk (below_step (w := w) bW hb)
      clear BK256
      clear BK257
      clear HB
      have BK256 := n0_
      have BK257 := n1_
      have HB := n2_
      clear n0_ n1_ n2_
      (try clear hb)
      refine hK.out _ _ ⟨(blk_cell BK256.out 0).trans rfl, (blk_cell BK256.out 1).trans rfl⟩ (fun hHeld => ?_)
      clear hK K
      refine norm_ (a' := ?_) ?_ ?_
      rotate_left
      · show Act.put _ (some 11) _ = _
        simp only [Act.put, List.setIfInBounds_toArray, List.set_cons_zero, List.set_cons_succ, i64_w, i32_w]
        rfl
      refine pz 3 12 (bs 30 15) HT_ ?_
      refine pz 4 13 (bs 30 31) HT_ ?_
      refine pz 5 14 (bs 30 63) HT_ ?_
      refine pz 6 15 (bs 30 127) HT_ ?_
      refine pz 7 16 (bs 30 255) HT_ ?_
      refine pz 8 17 (bs 30 511) HT_ ?_
      refine uz 9 18 (bs 30 1023) HT_ ?_
      refine uz 10 19 (bs 30 2047) HT_ ?_
      refine uz 11 20 (bs 30 4095) HT_ ?_
      refine uz 12 21 (bs 30 8191) HT_ ?_
      refine uz 13 22 (bs 30 16383) HT_ ?_
      refine pz 14 23 (bs 30 32767) HT_ ?_
      refine pz 15 24 (bs 30 65535) HT_ ?_
      refine uz 16 25 (bs 30 131071) HT_ ?_
      refine uz 17 26 (bs 30 262143) HT_ ?_
      refine uz 18 27 (bs 30 524287) HT_ ?_
      refine uz 19 28 (bs 30 1048575) HT_ ?_
      refine uz 20 29 (bs 30 2097151) HT_ ?_
      refine uz 21 30 (bs 30 4194303) HT_ ?_
      refine uz 22 31 (bs 30 8388607) HT_ ?_
      refine uz 23 32 (bs 30 16777215) HT_ ?_
      refine uz 24 33 (bs 30 33554431) HT_ ?_
      refine uz 25 34 (bs 30 67108863) HT_ ?_
      refine uz 26 35 (bs 30 134217727) HT_ ?_
      refine uz 27 36 (bs 30 268435455) HT_ ?_
      refine uz 28 37 (bs 30 536870911) HT_ ?_
      refine pz 29 38 (bs 30 1073741823) HT_ ?_
      refine done_ (done_of HT_.out (by kernel_rfl)) ?_
      try go_wp2
      go_ret
      exact ⟨rE, bW⟩
    · rw [if_neg c5] at H
      have c5b0 : decide (2 < (l0_0.length : Int)) = false := decide_eq_false c5
      have c5b1 : decide (2 < l0_0.length) = false := decide_eq_false (by omega)
      clear c5
      by_cases c12 : (((l0_0.length : Int) == 0) != (a1 == 1)) = true
      · rw [if_pos c12] at H
        have c12b0 : (((l0_0.length : Int) == 0) != (a1 == 1)) = true := c12
        (try (have c12b1 : decide (((l0_0.length : Int) == 0) = (a1 == 1)) = false := by simpa using c12))
        (try (have c12b2 : (((l0_0.length : Int) == 0) == (a1 == 1)) = false := by simpa using c12))
        (try (have c12b3 : ¬ (((l0_0.length : Int) == 0) = (a1 == 1)) := by simpa using c12))
        clear c12
        obtain rfl := Option.some.inj H
        go_enter Tryz.func122, Tryz.ntmps122
        try go_wp2_with (first | ((with_reducible refine gate_dst (N := 2) rfl ?_); refine bE (N := 2) (cs := #[.slice A0_0 l0_0.length c0_0, .slice A0_1 l0_1.length c0_1]) (t := 64) ?_; intro gb256 hg w13 hbox hb; have n0_ := Aside0.mk (below_step (w := w) bW hb); have n1_ := Aside0.mk (hbox); have n2_ := Aside0.mk (gS (w := w) hg); have n3_ := n2_; clear HB; have HB := n0_; have BK256 := n1_; have GW256 := n2_; have GE256 := n3_; clear n0_ n1_ n2_ n3_; clear hb hbox hg) | ((with_reducible refine gate_dst (N := 3) rfl ?_); refine bE (N := 3) (cs := #[.int .i64 a1]) (t := 3) ?_; intro gb257 hg w14 hbox hb; have n0_ := Aside0.mk (kb BK256 hb); have n1_ := Aside0.mk (below_step (w := w) bW hb); have n2_ := Aside0.mk (hbox); have n3_ := Aside0.mk (gS (w := w) hg); have n4_ := n3_; have n5_ := Aside0.mk (nL BK256 hg); have n6_ := Aside0.mk (nG BK256 hg); clear BK256; clear HB; have BK256 := n0_; have HB := n1_; have BK257 := n2_; have GW257 := n3_; have GE257 := n4_; have NB256_257 := n5_; have NB257_256 := n6_; clear n0_ n1_ n2_ n3_ n4_ n5_ n6_; clear hb hbox hg; have hnb15 := NB256_257.out; have hnc15 := NB257_256.out; obtain ⟨hcz16_0, hcz16_1⟩ := cz2 BK256; obtain ⟨hfz16_0, hfz16_1⟩ := fz2 BK256))
        have n0_ := Aside0.mk (blk_drew BK256.out)
        have n1_ := Aside0.mk (blk_drew BK257.out)
        have n2_ := Aside0.mk (below_drew1 HB.out)
        clear BK256
        clear BK257
        clear HB
        have BK256 := n0_
        have BK257 := n1_
        have HB := n2_
        clear n0_ n1_ n2_
        refine start_ (n := 30) (S := fun w' => w'.cell? ⟨gb256, 0, none⟩ = some (.slice A0_0 l0_0.length c0_0) ∧ w'.cell? ⟨gb256, 1, none⟩ = some (.slice A0_1 l0_1.length c0_1) ∧ w'.cell? ⟨gb257, 0, none⟩ = some (.int .i64 a1)) (ds := []) (bs 30 0) (by kernel_rfl) rfl rfl ⟨(blk_cell BK256.out 0).trans rfl, (blk_cell BK256.out 1).trans rfl, (blk_cell BK257.out 0).trans rfl⟩ (fun hHeld => ?_); refine with_tabW impl_Commit_isAt.tab2 impl_Commit_isAt.bits2 (fun HT_ HW_ => ?_)
        generalize w14.drew = w17 at BK256 BK257 HB hHeld ⊢
        refine pz 0 9 (bs 30 1) HT_ ?_
        refine tz 1 10 (bs 30 3) HT_ HW_ hHeld ?_
        refine one_ (i := 2) (N := some 11) (bs 30 7) rfl rfl (one_of HT_.out (by kernel_rfl)) (by decide) (fun K hK => ?_)
        refine goes_ Tryz.func136 (by kernel_rfl) rfl #[.slice A0_1 l0_1.length c0_1] (by rfl) rfl rfl gA ?_
        with_reducible refine (impl_MapOK.calls k _ _ l0_1 true _ ?side1 ?side2 A3.out).mono ?_
        (case side1 => exact cB HR0_1)
        (case side2 => exact HC0_1.out)
        rintro e w18 ⟨rfl, hb⟩
        refine ⟨_, rfl, ?_⟩
        have n0_ := Aside0.mk (kb BK256 hb)
        have n1_ := Aside0.mk (kb BK257 hb)
        have n2_ := Aside0.mk (below_step (w := w) bW hb)
        clear BK256
        clear BK257
        clear HB
        have BK256 := n0_
        have BK257 := n1_
        have HB := n2_
        clear n0_ n1_ n2_
        (try clear hb)
        refine hK.out _ _ ⟨(blk_cell BK256.out 0).trans rfl, (blk_cell BK256.out 1).trans rfl, (blk_cell BK257.out 0).trans rfl⟩ (fun hHeld => ?_)
        clear hK K
        refine norm_ (a' := ?_) ?_ ?_
        rotate_left
        · show Act.put _ (some 11) _ = _
          simp only [Act.put, List.setIfInBounds_toArray, List.set_cons_zero, List.set_cons_succ, i64_w, i32_w]
          rfl
        refine pz 3 12 (bs 30 15) HT_ ?_
        refine pz 4 13 (bs 30 31) HT_ ?_
        refine pz 5 14 (bs 30 63) HT_ ?_
        refine pz 6 15 (bs 30 127) HT_ ?_
        refine pz 7 16 (bs 30 255) HT_ ?_
        refine pz 8 17 (bs 30 511) HT_ ?_
        refine pz 9 18 (bs 30 1023) HT_ ?_
        refine pz 10 19 (bs 30 2047) HT_ ?_
        refine tz 11 20 (bs 30 4095) HT_ HW_ hHeld ?_
        refine pz 12 21 (bs 30 8191) HT_ ?_
        refine pz 13 22 (bs 30 16383) HT_ ?_
        refine pz 14 23 (bs 30 32767) HT_ ?_
        refine pz 15 24 (bs 30 65535) HT_ ?_
        refine uz 16 25 (bs 30 131071) HT_ ?_
        refine uz 17 26 (bs 30 262143) HT_ ?_
        refine uz 18 27 (bs 30 524287) HT_ ?_
        refine uz 19 28 (bs 30 1048575) HT_ ?_
        refine uz 20 29 (bs 30 2097151) HT_ ?_
        refine uz 21 30 (bs 30 4194303) HT_ ?_
        refine uz 22 31 (bs 30 8388607) HT_ ?_
        refine uz 23 32 (bs 30 16777215) HT_ ?_
        refine uz 24 33 (bs 30 33554431) HT_ ?_
        refine uz 25 34 (bs 30 67108863) HT_ ?_
        refine uz 26 35 (bs 30 134217727) HT_ ?_
        refine uz 27 36 (bs 30 268435455) HT_ ?_
        refine uz 28 37 (bs 30 536870911) HT_ ?_
        refine pz 29 38 (bs 30 1073741823) HT_ ?_
        refine done_ (done_of HT_.out (by kernel_rfl)) ?_
        try go_wp2
        go_ret
        exact ⟨rE, bW⟩
      · rw [if_neg c12] at H
        have c12b0 : (((l0_0.length : Int) == 0) != (a1 == 1)) = false := by simpa using c12
        (try (have c12b1 : decide (((l0_0.length : Int) == 0) = (a1 == 1)) = true := by simpa using c12))
        (try (have c12b2 : (((l0_0.length : Int) == 0) == (a1 == 1)) = true := by simpa using c12))
        clear c12
        by_cases c19 : (l0_0.length : Int) = 2
        · rw [if_pos c19] at H
          have c19b0 : ((l0_0.length : Int) == 2) = true := beq_iff_eq.mpr c19
          have c19b1 : ((l0_0.length : Int) != 2) = false := bne_eq_false_iff_eq.mpr c19
          clear c19
          by_cases c20 : 0 < (l0_0.length : Int)
          · rw [if_pos c20] at H
            have c20b0 : decide (0 < (l0_0.length : Int)) = true := decide_eq_true c20
            have c20b1 : decide (0 < l0_0.length) = true := decide_eq_true (by omega)
            clear c20
            by_cases c21 : 1 < (l0_0.length : Int)
            · rw [if_pos c21] at H
              have c21b0 : decide (1 < (l0_0.length : Int)) = true := decide_eq_true c21
              have c21b1 : decide (1 < l0_0.length) = true := decide_eq_true (by omega)
              clear c21
              by_cases c22 : (rd l0_0 0) = (rd l0_0 1)
              · rw [if_pos c22] at H
                have c22b0 : ((rd l0_0 0) == (rd l0_0 1)) = true := beq_iff_eq.mpr c22
                have c22b1 : ((rd l0_0 0) != (rd l0_0 1)) = false := bne_eq_false_iff_eq.mpr c22
                clear c22
                obtain rfl := Option.some.inj H
                go_enter Tryz.func122, Tryz.ntmps122
                try go_wp2_with (first | ((with_reducible refine gate_dst (N := 2) rfl ?_); refine bE (N := 2) (cs := #[.slice A0_0 l0_0.length c0_0, .slice A0_1 l0_1.length c0_1]) (t := 64) ?_; intro gb256 hg w23 hbox hb; have n0_ := Aside0.mk (below_step (w := w) bW hb); have n1_ := Aside0.mk (hbox); have n2_ := Aside0.mk (gS (w := w) hg); have n3_ := n2_; clear HB; have HB := n0_; have BK256 := n1_; have GW256 := n2_; have GE256 := n3_; clear n0_ n1_ n2_ n3_; clear hb hbox hg) | ((with_reducible refine gate_dst (N := 3) rfl ?_); refine bE (N := 3) (cs := #[.int .i64 a1]) (t := 3) ?_; intro gb257 hg w24 hbox hb; have n0_ := Aside0.mk (kb BK256 hb); have n1_ := Aside0.mk (below_step (w := w) bW hb); have n2_ := Aside0.mk (hbox); have n3_ := Aside0.mk (gS (w := w) hg); have n4_ := n3_; have n5_ := Aside0.mk (nL BK256 hg); have n6_ := Aside0.mk (nG BK256 hg); clear BK256; clear HB; have BK256 := n0_; have HB := n1_; have BK257 := n2_; have GW257 := n3_; have GE257 := n4_; have NB256_257 := n5_; have NB257_256 := n6_; clear n0_ n1_ n2_ n3_ n4_ n5_ n6_; clear hb hbox hg; have hnb25 := NB256_257.out; have hnc25 := NB257_256.out; obtain ⟨hcz26_0, hcz26_1⟩ := cz2 BK256; obtain ⟨hfz26_0, hfz26_1⟩ := fz2 BK256))
                have n0_ := Aside0.mk (blk_drew BK256.out)
                have n1_ := Aside0.mk (blk_drew BK257.out)
                have n2_ := Aside0.mk (below_drew1 HB.out)
                clear BK256
                clear BK257
                clear HB
                have BK256 := n0_
                have BK257 := n1_
                have HB := n2_
                clear n0_ n1_ n2_
                have p259 : 0 ≤ (0 : Int) := (by omega)
                have q259 : 0 < (l0_0.length : Int) := odt
                obtain ⟨ad259, e259, hx259_0⟩ := Kd.at_int HR0_0.out 0 p259 q259
                have hw259_0 := hx259_0
                (try rw [show ((0 : Int)).toNat = 0 from rfl] at hw259_0)
                (try rw [Addr.add_zero'] at hw259_0)
                cases e259
                have qi259 : (0 < l0_0.length) = True := eq_true (by omega)
                (try rw [show ((0 : Int)).toNat = 0 from rfl] at hx259_0)
                (try rw [Addr.add_zero'] at hx259_0)
                replace hx259_0 := (HB.out.cell (World.block_lt_of_cell? w _ hx259_0)).trans hx259_0
                replace p259 := eq_true p259
                replace q259 := eq_true q259
                have p260 : 0 ≤ (1 : Int) := (by omega)
                have q260 : 1 < (l0_0.length : Int) := odt
                obtain ⟨ad260, e260, hx260_0⟩ := Kd.at_int HR0_0.out 1 p260 q260
                have hw260_0 := hx260_0
                (try rw [show ((1 : Int)).toNat = 1 from rfl] at hw260_0)
                (try simp only [Nat.reduceMul, Nat.reduceEqDiff, Go.Addr.add, ↓reduceIte] at hw260_0)
                obtain rfl : ad259 = ad260 := (by injection e260)
                (try simp only [show (1 : Int).toNat = 1 from rfl, Nat.reduceMul, Nat.reduceEqDiff, Go.Addr.add, ↓reduceIte] at hx260_0)
                have qi260 : (1 < l0_0.length) = True := eq_true (by omega)
                replace hx260_0 := (HB.out.cell (World.block_lt_of_cell? w _ hx260_0)).trans hx260_0
                replace p260 := eq_true p260
                replace q260 := eq_true q260
                refine start_ (n := 30) (S := fun w' => w'.cell? ⟨gb256, 0, none⟩ = some (.slice (some ad259) l0_0.length c0_0) ∧ w'.cell? ⟨gb256, 1, none⟩ = some (.slice A0_1 l0_1.length c0_1) ∧ w'.cell? ⟨gb257, 0, none⟩ = some (.int .i64 a1) ∧ w'.cell? ad259 = some (.int .i64 (rd l0_0 0)) ∧ w'.cell? ⟨ad259.block, ad259.off + 1, none⟩ = some (.int .i64 (rd l0_0 1))) (ds := []) (bs 30 0) (by kernel_rfl) rfl rfl ⟨(blk_cell BK256.out 0).trans rfl, (blk_cell BK256.out 1).trans rfl, (blk_cell BK257.out 0).trans rfl, ((HB.out.cell (World.block_lt_of_cell? w _ hw259_0)).trans hw259_0), ((HB.out.cell (World.block_lt_of_cell? w _ hw260_0)).trans hw260_0)⟩ (fun hHeld => ?_); refine with_tabW impl_Commit_isAt.tab2 impl_Commit_isAt.bits2 (fun HT_ HW_ => ?_)
                generalize w24.drew = w27 at BK256 BK257 HB hx259_0 hx260_0 hHeld ⊢
                refine pz 0 9 (bs 30 1) HT_ ?_
                refine tz 1 10 (bs 30 3) HT_ HW_ hHeld ?_
                refine one_ (i := 2) (N := some 11) (bs 30 7) rfl rfl (one_of HT_.out (by kernel_rfl)) (by decide) (fun K hK => ?_)
                refine goes_ Tryz.func136 (by kernel_rfl) rfl #[.slice A0_1 l0_1.length c0_1] (by rfl) rfl rfl gA ?_
                with_reducible refine (impl_MapOK.calls k _ _ l0_1 true _ ?side1 ?side2 A3.out).mono ?_
                (case side1 => exact cB HR0_1)
                (case side2 => exact HC0_1.out)
                rintro e w28 ⟨rfl, hb⟩
                refine ⟨_, rfl, ?_⟩
                have n0_ := Aside0.mk (kb BK256 hb)
                have n1_ := Aside0.mk (kb BK257 hb)
                have n2_ := Aside0.mk (below_step (w := w) bW hb)
                clear BK256
                clear BK257
                clear HB
                have BK256 := n0_
                have BK257 := n1_
                have HB := n2_
                clear n0_ n1_ n2_
                (try clear hb)
                refine hK.out _ _ ⟨(blk_cell BK256.out 0).trans rfl, (blk_cell BK256.out 1).trans rfl, (blk_cell BK257.out 0).trans rfl, ((HB.out.cell (World.block_lt_of_cell? w _ hw259_0)).trans hw259_0), ((HB.out.cell (World.block_lt_of_cell? w _ hw260_0)).trans hw260_0)⟩ (fun hHeld => ?_)
                clear hK K
                refine norm_ (a' := ?_) ?_ ?_
                rotate_left
                · show Act.put _ (some 11) _ = _
                  simp only [Act.put, List.setIfInBounds_toArray, List.set_cons_zero, List.set_cons_succ, i64_w, i32_w]
                  rfl
                refine pz 3 12 (bs 30 15) HT_ ?_
                refine pz 4 13 (bs 30 31) HT_ ?_
                refine pz 5 14 (bs 30 63) HT_ ?_
                refine pz 6 15 (bs 30 127) HT_ ?_
                refine pz 7 16 (bs 30 255) HT_ ?_
                refine pz 8 17 (bs 30 511) HT_ ?_
                refine pz 9 18 (bs 30 1023) HT_ ?_
                refine pz 10 19 (bs 30 2047) HT_ ?_
                refine tz 11 20 (bs 30 4095) HT_ HW_ hHeld ?_
                refine pz 12 21 (bs 30 8191) HT_ ?_
                refine pz 13 22 (bs 30 16383) HT_ ?_
                refine pz 14 23 (bs 30 32767) HT_ ?_
                refine pz 15 24 (bs 30 65535) HT_ ?_
                refine pz 16 25 (bs 30 131071) HT_ ?_
                refine pz 17 26 (bs 30 262143) HT_ ?_
                refine pz 18 27 (bs 30 524287) HT_ ?_
                refine pz 19 28 (bs 30 1048575) HT_ ?_
                refine pz 23 32 (bs 30 9437183) HT_ ?_
                refine tz 20 29 (bs 30 10485759) HT_ HW_ hHeld ?_
                refine pz 21 30 (bs 30 12582911) HT_ ?_
                refine tz 22 31 (bs 30 16777215) HT_ HW_ hHeld ?_
                refine tz 24 33 (bs 30 33554431) HT_ HW_ hHeld ?_
                refine pz 25 34 (bs 30 67108863) HT_ ?_
                refine tz 26 35 (bs 30 134217727) HT_ HW_ hHeld ?_
                refine pz 27 36 (bs 30 268435455) HT_ ?_
                refine pz 28 37 (bs 30 536870911) HT_ ?_
                refine pz 29 38 (bs 30 1073741823) HT_ ?_
                refine done_ (done_of HT_.out (by kernel_rfl)) ?_
                try go_wp2
                go_ret
                exact ⟨rE, bW⟩
              · rw [if_neg c22] at H
                have c22b0 : ((rd l0_0 0) == (rd l0_0 1)) = false := beq_eq_false_iff_ne.mpr c22
                have c22b1 : ((rd l0_0 0) != (rd l0_0 1)) = true := bne_iff_ne.mpr c22
                replace H := Option.bind_eq_some_iff.mp H
                obtain ⟨t261, A290, H⟩ := H
                replace H : (some t261) = some r := H
                have A29 := Aside0.mk A290
                clear A290
                obtain rfl := Option.some.inj H
                go_enter Tryz.func122, Tryz.ntmps122
                try go_wp2_with (first | ((with_reducible refine gate_dst (N := 2) rfl ?_); refine bE (N := 2) (cs := #[.slice A0_0 l0_0.length c0_0, .slice A0_1 l0_1.length c0_1]) (t := 64) ?_; intro gb256 hg w30 hbox hb; have n0_ := Aside0.mk (below_step (w := w) bW hb); have n1_ := Aside0.mk (hbox); have n2_ := Aside0.mk (gS (w := w) hg); have n3_ := n2_; clear HB; have HB := n0_; have BK256 := n1_; have GW256 := n2_; have GE256 := n3_; clear n0_ n1_ n2_ n3_; clear hb hbox hg) | ((with_reducible refine gate_dst (N := 3) rfl ?_); refine bE (N := 3) (cs := #[.int .i64 a1]) (t := 3) ?_; intro gb257 hg w31 hbox hb; have n0_ := Aside0.mk (kb BK256 hb); have n1_ := Aside0.mk (below_step (w := w) bW hb); have n2_ := Aside0.mk (hbox); have n3_ := Aside0.mk (gS (w := w) hg); have n4_ := n3_; have n5_ := Aside0.mk (nL BK256 hg); have n6_ := Aside0.mk (nG BK256 hg); clear BK256; clear HB; have BK256 := n0_; have HB := n1_; have BK257 := n2_; have GW257 := n3_; have GE257 := n4_; have NB256_257 := n5_; have NB257_256 := n6_; clear n0_ n1_ n2_ n3_ n4_ n5_ n6_; clear hb hbox hg; have hnb32 := NB256_257.out; have hnc32 := NB257_256.out; obtain ⟨hcz33_0, hcz33_1⟩ := cz2 BK256; obtain ⟨hfz33_0, hfz33_1⟩ := fz2 BK256))
                have n0_ := Aside0.mk (blk_drew BK256.out)
                have n1_ := Aside0.mk (blk_drew BK257.out)
                have n2_ := Aside0.mk (below_drew1 HB.out)
                clear BK256
                clear BK257
                clear HB
                have BK256 := n0_
                have BK257 := n1_
                have HB := n2_
                clear n0_ n1_ n2_
                have p259 : 0 ≤ (0 : Int) := (by omega)
                have q259 : 0 < (l0_0.length : Int) := odt
                obtain ⟨ad259, e259, hx259_0⟩ := Kd.at_int HR0_0.out 0 p259 q259
                have hw259_0 := hx259_0
                (try rw [show ((0 : Int)).toNat = 0 from rfl] at hw259_0)
                (try rw [Addr.add_zero'] at hw259_0)
                cases e259
                have qi259 : (0 < l0_0.length) = True := eq_true (by omega)
                (try rw [show ((0 : Int)).toNat = 0 from rfl] at hx259_0)
                (try rw [Addr.add_zero'] at hx259_0)
                replace hx259_0 := (HB.out.cell (World.block_lt_of_cell? w _ hx259_0)).trans hx259_0
                replace p259 := eq_true p259
                replace q259 := eq_true q259
                have p260 : 0 ≤ (1 : Int) := (by omega)
                have q260 : 1 < (l0_0.length : Int) := odt
                obtain ⟨ad260, e260, hx260_0⟩ := Kd.at_int HR0_0.out 1 p260 q260
                have hw260_0 := hx260_0
                (try rw [show ((1 : Int)).toNat = 1 from rfl] at hw260_0)
                (try simp only [Nat.reduceMul, Nat.reduceEqDiff, Go.Addr.add, ↓reduceIte] at hw260_0)
                obtain rfl : ad259 = ad260 := (by injection e260)
                (try simp only [show (1 : Int).toNat = 1 from rfl, Nat.reduceMul, Nat.reduceEqDiff, Go.Addr.add, ↓reduceIte] at hx260_0)
                have qi260 : (1 < l0_0.length) = True := eq_true (by omega)
                replace hx260_0 := (HB.out.cell (World.block_lt_of_cell? w _ hx260_0)).trans hx260_0
                replace p260 := eq_true p260
                replace q260 := eq_true q260
                refine start_ (n := 30) (S := fun w' => w'.cell? ⟨gb256, 0, none⟩ = some (.slice (some ad259) l0_0.length c0_0) ∧ w'.cell? ⟨gb256, 1, none⟩ = some (.slice A0_1 l0_1.length c0_1) ∧ w'.cell? ⟨gb257, 0, none⟩ = some (.int .i64 a1) ∧ w'.cell? ad259 = some (.int .i64 (rd l0_0 0)) ∧ w'.cell? ⟨ad259.block, ad259.off + 1, none⟩ = some (.int .i64 (rd l0_0 1))) (ds := []) (bs 30 0) (by kernel_rfl) rfl rfl ⟨(blk_cell BK256.out 0).trans rfl, (blk_cell BK256.out 1).trans rfl, (blk_cell BK257.out 0).trans rfl, ((HB.out.cell (World.block_lt_of_cell? w _ hw259_0)).trans hw259_0), ((HB.out.cell (World.block_lt_of_cell? w _ hw260_0)).trans hw260_0)⟩ (fun hHeld => ?_); refine with_tabW impl_Commit_isAt.tab2 impl_Commit_isAt.bits2 (fun HT_ HW_ => ?_)
                generalize w31.drew = w34 at BK256 BK257 HB hx259_0 hx260_0 hHeld ⊢
                refine pz 0 9 (bs 30 1) HT_ ?_
                refine tz 1 10 (bs 30 3) HT_ HW_ hHeld ?_
                refine one_ (i := 2) (N := some 11) (bs 30 7) rfl rfl (one_of HT_.out (by kernel_rfl)) (by decide) (fun K hK => ?_)
                refine goes_ Tryz.func136 (by kernel_rfl) rfl #[.slice A0_1 l0_1.length c0_1] (by rfl) rfl rfl gA ?_
                with_reducible refine (impl_MapOK.calls k _ _ l0_1 true _ ?side1 ?side2 A3.out).mono ?_
                (case side1 => exact cB HR0_1)
                (case side2 => exact HC0_1.out)
                rintro e w35 ⟨rfl, hb⟩
                refine ⟨_, rfl, ?_⟩
                have n0_ := Aside0.mk (kb BK256 hb)
                have n1_ := Aside0.mk (kb BK257 hb)
                have n2_ := Aside0.mk (below_step (w := w) bW hb)
                clear BK256
                clear BK257
                clear HB
                have BK256 := n0_
                have BK257 := n1_
                have HB := n2_
                clear n0_ n1_ n2_
                (try clear hb)
                refine hK.out _ _ ⟨(blk_cell BK256.out 0).trans rfl, (blk_cell BK256.out 1).trans rfl, (blk_cell BK257.out 0).trans rfl, ((HB.out.cell (World.block_lt_of_cell? w _ hw259_0)).trans hw259_0), ((HB.out.cell (World.block_lt_of_cell? w _ hw260_0)).trans hw260_0)⟩ (fun hHeld => ?_)
                clear hK K
                refine norm_ (a' := ?_) ?_ ?_
                rotate_left
                · show Act.put _ (some 11) _ = _
                  simp only [Act.put, List.setIfInBounds_toArray, List.set_cons_zero, List.set_cons_succ, i64_w, i32_w]
                  rfl
                refine pz 3 12 (bs 30 15) HT_ ?_
                refine pz 4 13 (bs 30 31) HT_ ?_
                refine pz 5 14 (bs 30 63) HT_ ?_
                refine pz 6 15 (bs 30 127) HT_ ?_
                refine pz 7 16 (bs 30 255) HT_ ?_
                refine pz 8 17 (bs 30 511) HT_ ?_
                refine pz 9 18 (bs 30 1023) HT_ ?_
                refine pz 10 19 (bs 30 2047) HT_ ?_
                refine tz 11 20 (bs 30 4095) HT_ HW_ hHeld ?_
                refine pz 12 21 (bs 30 8191) HT_ ?_
                refine pz 13 22 (bs 30 16383) HT_ ?_
                refine pz 14 23 (bs 30 32767) HT_ ?_
                refine pz 15 24 (bs 30 65535) HT_ ?_
                refine pz 16 25 (bs 30 131071) HT_ ?_
                refine pz 17 26 (bs 30 262143) HT_ ?_
                refine pz 18 27 (bs 30 524287) HT_ ?_
                refine pz 19 28 (bs 30 1048575) HT_ ?_
                refine pz 23 32 (bs 30 9437183) HT_ ?_
                refine tz 20 29 (bs 30 10485759) HT_ HW_ hHeld ?_
                refine pz 21 30 (bs 30 12582911) HT_ ?_
                refine tz 22 31 (bs 30 16777215) HT_ HW_ hHeld ?_
                refine tz 24 33 (bs 30 33554431) HT_ HW_ hHeld ?_
                refine pz 25 34 (bs 30 67108863) HT_ ?_
                refine tz 26 35 (bs 30 134217727) HT_ HW_ hHeld ?_
                refine pz 27 36 (bs 30 268435455) HT_ ?_
                refine pz 28 37 (bs 30 536870911) HT_ ?_
                refine pz 29 38 (bs 30 1073741823) HT_ ?_
                refine done_ (done_of HT_.out (by kernel_rfl)) ?_
                have hcz36_0 : w35.cell? ⟨gb256, 0, none⟩ = some (.slice (some ad259) l0_0.length c0_0) := (blk_cell BK256.out 0).trans rfl
                have hcz36_1 : w35.cell? ⟨gb256, 1, none⟩ = some (.slice A0_1 l0_1.length c0_1) := (blk_cell BK256.out 1).trans rfl
                have hfz36_0 := blk_frozen BK256.out 0
                have hfz36_1 := blk_frozen BK256.out 1
                try go_wp2_with (((with_reducible refine gate_callee (f := 73) rfl ?_); refine goesL_ (some 42) rfl rfl Tryz.func73 (by kernel_rfl) rfl #[.slice (some ad259) l0_0.length c0_0, .func (.func 137) #[] #[.pointer (some ⟨gb257, 0, none⟩)]] rfl gA ?_; (with_reducible refine (areAllint_isAt.calls _ _ l0_0 a1 t261 _ ?side1 ?side2 ?side3 A29.out).mono ?_); (case side1 => exact cB HR0_0); (case side2 => exact HC0_0.out); (case side3 => exact (kB BK257)); rintro e w37 ⟨rfl, hb⟩; refine ⟨_, rfl, ?_⟩; have n0_ := Aside0.mk (kb BK256 hb); have n1_ := Aside0.mk (kb BK257 hb); have n2_ := Aside0.mk (below_step (w := w) bW hb); clear BK256; clear BK257; clear HB; have BK256 := n0_; have BK257 := n1_; have HB := n2_; clear n0_ n1_ n2_; (try clear hb)))
                go_ret
                exact ⟨rE, bW⟩
            · rw [if_neg c21] at H
              exact absurd H (by simp)
          · rw [if_neg c20] at H
            exact absurd H (by simp)
        · rw [if_neg c19] at H
          have c19b0 : ((l0_0.length : Int) == 2) = false := beq_eq_false_iff_ne.mpr c19
          have c19b1 : ((l0_0.length : Int) != 2) = true := bne_iff_ne.mpr c19
          replace H := Option.bind_eq_some_iff.mp H
          obtain ⟨t262, A380, H⟩ := H
          replace H : (some t262) = some r := H
          have A38 := Aside0.mk A380
          clear A380
          obtain rfl := Option.some.inj H
          go_enter Tryz.func122, Tryz.ntmps122
          try go_wp2_with (first | ((with_reducible refine gate_dst (N := 2) rfl ?_); refine bE (N := 2) (cs := #[.slice A0_0 l0_0.length c0_0, .slice A0_1 l0_1.length c0_1]) (t := 64) ?_; intro gb256 hg w39 hbox hb; have n0_ := Aside0.mk (below_step (w := w) bW hb); have n1_ := Aside0.mk (hbox); have n2_ := Aside0.mk (gS (w := w) hg); have n3_ := n2_; clear HB; have HB := n0_; have BK256 := n1_; have GW256 := n2_; have GE256 := n3_; clear n0_ n1_ n2_ n3_; clear hb hbox hg) | ((with_reducible refine gate_dst (N := 3) rfl ?_); refine bE (N := 3) (cs := #[.int .i64 a1]) (t := 3) ?_; intro gb257 hg w40 hbox hb; have n0_ := Aside0.mk (kb BK256 hb); have n1_ := Aside0.mk (below_step (w := w) bW hb); have n2_ := Aside0.mk (hbox); have n3_ := Aside0.mk (gS (w := w) hg); have n4_ := n3_; have n5_ := Aside0.mk (nL BK256 hg); have n6_ := Aside0.mk (nG BK256 hg); clear BK256; clear HB; have BK256 := n0_; have HB := n1_; have BK257 := n2_; have GW257 := n3_; have GE257 := n4_; have NB256_257 := n5_; have NB257_256 := n6_; clear n0_ n1_ n2_ n3_ n4_ n5_ n6_; clear hb hbox hg; have hnb41 := NB256_257.out; have hnc41 := NB257_256.out; obtain ⟨hcz42_0, hcz42_1⟩ := cz2 BK256; obtain ⟨hfz42_0, hfz42_1⟩ := fz2 BK256))
          have n0_ := Aside0.mk (blk_drew BK256.out)
          have n1_ := Aside0.mk (blk_drew BK257.out)
          have n2_ := Aside0.mk (below_drew1 HB.out)
          clear BK256
          clear BK257
          clear HB
          have BK256 := n0_
          have BK257 := n1_
          have HB := n2_
          clear n0_ n1_ n2_
          refine start_ (n := 30) (S := fun w' => w'.cell? ⟨gb256, 0, none⟩ = some (.slice A0_0 l0_0.length c0_0) ∧ w'.cell? ⟨gb256, 1, none⟩ = some (.slice A0_1 l0_1.length c0_1) ∧ w'.cell? ⟨gb257, 0, none⟩ = some (.int .i64 a1)) (ds := []) (bs 30 0) (by kernel_rfl) rfl rfl ⟨(blk_cell BK256.out 0).trans rfl, (blk_cell BK256.out 1).trans rfl, (blk_cell BK257.out 0).trans rfl⟩ (fun hHeld => ?_); refine with_tabW impl_Commit_isAt.tab2 impl_Commit_isAt.bits2 (fun HT_ HW_ => ?_)
          generalize w40.drew = w43 at BK256 BK257 HB hHeld ⊢
          refine pz 0 9 (bs 30 1) HT_ ?_
          refine tz 1 10 (bs 30 3) HT_ HW_ hHeld ?_
          refine one_ (i := 2) (N := some 11) (bs 30 7) rfl rfl (one_of HT_.out (by kernel_rfl)) (by decide) (fun K hK => ?_)
          refine goes_ Tryz.func136 (by kernel_rfl) rfl #[.slice A0_1 l0_1.length c0_1] (by rfl) rfl rfl gA ?_
          with_reducible refine (impl_MapOK.calls k _ _ l0_1 true _ ?side1 ?side2 A3.out).mono ?_
          (case side1 => exact cB HR0_1)
          (case side2 => exact HC0_1.out)
          rintro e w44 ⟨rfl, hb⟩
          refine ⟨_, rfl, ?_⟩
          have n0_ := Aside0.mk (kb BK256 hb)
          have n1_ := Aside0.mk (kb BK257 hb)
          have n2_ := Aside0.mk (below_step (w := w) bW hb)
          clear BK256
          clear BK257
          clear HB
          have BK256 := n0_
          have BK257 := n1_
          have HB := n2_
          clear n0_ n1_ n2_
          (try clear hb)
          refine hK.out _ _ ⟨(blk_cell BK256.out 0).trans rfl, (blk_cell BK256.out 1).trans rfl, (blk_cell BK257.out 0).trans rfl⟩ (fun hHeld => ?_)
          clear hK K
          refine norm_ (a' := ?_) ?_ ?_
          rotate_left
          · show Act.put _ (some 11) _ = _
            simp only [Act.put, List.setIfInBounds_toArray, List.set_cons_zero, List.set_cons_succ, i64_w, i32_w]
            rfl
          refine pz 3 12 (bs 30 15) HT_ ?_
          refine pz 4 13 (bs 30 31) HT_ ?_
          refine pz 5 14 (bs 30 63) HT_ ?_
          refine pz 6 15 (bs 30 127) HT_ ?_
          refine pz 7 16 (bs 30 255) HT_ ?_
          refine pz 8 17 (bs 30 511) HT_ ?_
          refine pz 9 18 (bs 30 1023) HT_ ?_
          refine pz 10 19 (bs 30 2047) HT_ ?_
          refine tz 11 20 (bs 30 4095) HT_ HW_ hHeld ?_
          refine pz 12 21 (bs 30 8191) HT_ ?_
          refine pz 13 22 (bs 30 16383) HT_ ?_
          refine pz 14 23 (bs 30 32767) HT_ ?_
          refine pz 15 24 (bs 30 65535) HT_ ?_
          refine pz 16 25 (bs 30 131071) HT_ ?_
          refine pz 17 26 (bs 30 262143) HT_ ?_
          refine pz 18 27 (bs 30 524287) HT_ ?_
          refine uz 19 28 (bs 30 1048575) HT_ ?_
          refine uz 20 29 (bs 30 2097151) HT_ ?_
          refine uz 21 30 (bs 30 4194303) HT_ ?_
          refine uz 22 31 (bs 30 8388607) HT_ ?_
          refine uz 23 32 (bs 30 16777215) HT_ ?_
          refine uz 24 33 (bs 30 33554431) HT_ ?_
          refine uz 25 34 (bs 30 67108863) HT_ ?_
          refine uz 26 35 (bs 30 134217727) HT_ ?_
          refine uz 27 36 (bs 30 268435455) HT_ ?_
          refine pz 28 37 (bs 30 536870911) HT_ ?_
          refine pz 29 38 (bs 30 1073741823) HT_ ?_
          refine done_ (done_of HT_.out (by kernel_rfl)) ?_
          have hcz45_0 : w44.cell? ⟨gb256, 0, none⟩ = some (.slice A0_0 l0_0.length c0_0) := (blk_cell BK256.out 0).trans rfl
          have hcz45_1 : w44.cell? ⟨gb256, 1, none⟩ = some (.slice A0_1 l0_1.length c0_1) := (blk_cell BK256.out 1).trans rfl
          have hfz45_0 := blk_frozen BK256.out 0
          have hfz45_1 := blk_frozen BK256.out 1
          try go_wp2_with (((with_reducible refine gate_callee (f := 73) rfl ?_); refine goesL_ (some 42) rfl rfl Tryz.func73 (by kernel_rfl) rfl #[.slice A0_0 l0_0.length c0_0, .func (.func 137) #[] #[.pointer (some ⟨gb257, 0, none⟩)]] rfl gA ?_; (with_reducible refine (areAllint_isAt.calls _ _ l0_0 a1 t262 _ ?side1 ?side2 ?side3 A38.out).mono ?_); (case side1 => exact cB HR0_0); (case side2 => exact HC0_0.out); (case side3 => exact (kB BK257)); rintro e w46 ⟨rfl, hb⟩; refine ⟨_, rfl, ?_⟩; have n0_ := Aside0.mk (kb BK256 hb); have n1_ := Aside0.mk (kb BK257 hb); have n2_ := Aside0.mk (below_step (w := w) bW hb); clear BK256; clear BK257; clear HB; have BK256 := n0_; have BK257 := n1_; have HB := n2_; clear n0_ n1_ n2_; (try clear hb)))
          go_ret
          exact ⟨rE, bW⟩
  · replace c4 := Bool.eq_false_iff.mpr c4
    subst c4
    have H1 : (some false) = some r := by rw [if_neg (show ¬ (false = true) by decide)] at H; exact H
    clear H
    have H := H1
    clear H1
    obtain rfl := Option.some.inj H
    go_enter Tryz.func122, Tryz.ntmps122
    try go_wp2_with (first | ((with_reducible refine gate_dst (N := 2) rfl ?_); refine bE (N := 2) (cs := #[.slice A0_0 l0_0.length c0_0, .slice A0_1 l0_1.length c0_1]) (t := 64) ?_; intro gb256 hg w47 hbox hb; have n0_ := Aside0.mk (below_step (w := w) bW hb); have n1_ := Aside0.mk (hbox); have n2_ := Aside0.mk (gS (w := w) hg); have n3_ := n2_; clear HB; have HB := n0_; have BK256 := n1_; have GW256 := n2_; have GE256 := n3_; clear n0_ n1_ n2_ n3_; clear hb hbox hg) | ((with_reducible refine gate_dst (N := 3) rfl ?_); refine bE (N := 3) (cs := #[.int .i64 a1]) (t := 3) ?_; intro gb257 hg w48 hbox hb; have n0_ := Aside0.mk (kb BK256 hb); have n1_ := Aside0.mk (below_step (w := w) bW hb); have n2_ := Aside0.mk (hbox); have n3_ := Aside0.mk (gS (w := w) hg); have n4_ := n3_; have n5_ := Aside0.mk (nL BK256 hg); have n6_ := Aside0.mk (nG BK256 hg); clear BK256; clear HB; have BK256 := n0_; have HB := n1_; have BK257 := n2_; have GW257 := n3_; have GE257 := n4_; have NB256_257 := n5_; have NB257_256 := n6_; clear n0_ n1_ n2_ n3_ n4_ n5_ n6_; clear hb hbox hg; have hnb49 := NB256_257.out; have hnc49 := NB257_256.out; obtain ⟨hcz50_0, hcz50_1⟩ := cz2 BK256; obtain ⟨hfz50_0, hfz50_1⟩ := fz2 BK256))
    have n0_ := Aside0.mk (blk_drew BK256.out)
    have n1_ := Aside0.mk (blk_drew BK257.out)
    have n2_ := Aside0.mk (below_drew1 HB.out)
    clear BK256
    clear BK257
    clear HB
    have BK256 := n0_
    have BK257 := n1_
    have HB := n2_
    clear n0_ n1_ n2_
    refine start_ (n := 30) (S := fun w' => w'.cell? ⟨gb256, 0, none⟩ = some (.slice A0_0 l0_0.length c0_0) ∧ w'.cell? ⟨gb256, 1, none⟩ = some (.slice A0_1 l0_1.length c0_1)) (ds := []) (bs 30 0) (by kernel_rfl) rfl rfl ⟨(blk_cell BK256.out 0).trans rfl, (blk_cell BK256.out 1).trans rfl⟩ (fun hHeld => ?_); refine with_tabW impl_Commit_isAt.tab2 impl_Commit_isAt.bits2 (fun HT_ HW_ => ?_)
    generalize w48.drew = w51 at BK256 BK257 HB hHeld ⊢
    refine pz 0 9 (bs 30 1) HT_ ?_
    refine tz 1 10 (bs 30 3) HT_ HW_ hHeld ?_
    refine one_ (i := 2) (N := some 11) (bs 30 7) rfl rfl (one_of HT_.out (by kernel_rfl)) (by decide) (fun K hK => ?_)
    refine goes_ Tryz.func136 (by kernel_rfl) rfl #[.slice A0_1 l0_1.length c0_1] (by rfl) rfl rfl gA ?_
    with_reducible refine (impl_MapOK.calls k _ _ l0_1 false _ ?side1 ?side2 A3.out).mono ?_
    (case side1 => exact cB HR0_1)
    (case side2 => exact HC0_1.out)
    rintro e w52 ⟨rfl, hb⟩
    refine ⟨_, rfl, ?_⟩
    have n0_ := Aside0.mk (kb BK256 hb)
    have n1_ := Aside0.mk (kb BK257 hb)
    have n2_ := Aside0.mk (below_step (w := w) bW hb)
    clear BK256
    clear BK257
    clear HB
    have BK256 := n0_
    have BK257 := n1_
    have HB := n2_
    clear n0_ n1_ n2_
    (try clear hb)
    refine hK.out _ _ ⟨(blk_cell BK256.out 0).trans rfl, (blk_cell BK256.out 1).trans rfl⟩ (fun hHeld => ?_)
    clear hK K
    refine norm_ (a' := ?_) ?_ ?_
    rotate_left
    · show Act.put _ (some 11) _ = _
      simp only [Act.put, List.setIfInBounds_toArray, List.set_cons_zero, List.set_cons_succ, i64_w, i32_w]
      rfl
    refine pz 3 12 (bs 30 15) HT_ ?_
    refine pz 4 13 (bs 30 31) HT_ ?_
    refine uz 5 14 (bs 30 63) HT_ ?_
    refine uz 6 15 (bs 30 127) HT_ ?_
    refine pz 7 16 (bs 30 255) HT_ ?_
    refine pz 8 17 (bs 30 511) HT_ ?_
    refine uz 9 18 (bs 30 1023) HT_ ?_
    refine uz 10 19 (bs 30 2047) HT_ ?_
    refine uz 11 20 (bs 30 4095) HT_ ?_
    refine uz 12 21 (bs 30 8191) HT_ ?_
    refine uz 13 22 (bs 30 16383) HT_ ?_
    refine pz 14 23 (bs 30 32767) HT_ ?_
    refine pz 15 24 (bs 30 65535) HT_ ?_
    refine uz 16 25 (bs 30 131071) HT_ ?_
    refine uz 17 26 (bs 30 262143) HT_ ?_
    refine uz 18 27 (bs 30 524287) HT_ ?_
    refine uz 19 28 (bs 30 1048575) HT_ ?_
    refine uz 20 29 (bs 30 2097151) HT_ ?_
    refine uz 21 30 (bs 30 4194303) HT_ ?_
    refine uz 22 31 (bs 30 8388607) HT_ ?_
    refine uz 23 32 (bs 30 16777215) HT_ ?_
    refine uz 24 33 (bs 30 33554431) HT_ ?_
    refine uz 25 34 (bs 30 67108863) HT_ ?_
    refine uz 26 35 (bs 30 134217727) HT_ ?_
    refine uz 27 36 (bs 30 268435455) HT_ ?_
    refine uz 28 37 (bs 30 536870911) HT_ ?_
    refine pz 29 38 (bs 30 1073741823) HT_ ?_
    refine done_ (done_of HT_.out (by kernel_rfl)) ?_
    try go_wp2
    go_ret
    exact ⟨rE, bW⟩
end Go.Proofs.YtblejbgkcgajgaaGreat.Q
end

section
namespace Go.Proofs.YtblejbgkcgajgaaGreat.Q
open Go.RowKit Go.Proofs.YtblejbgkcgajgaaGreatW.PrintWords Go.Proofs.YtblejbgkcgajgaaGreatW.PrintLast Go.Proofs.YtblejbgkcgajgaaGreatW.PrintMore
attribute [local go_sem] max2_int min2_int max_two min_two max_three min_three max_four min_four   -- for this text's walks alone
set_option linter.unusedVariables false
set_option linter.unusedSimpArgs false
attribute [local go_sem] bin_leq bin_gtr bin_geq
def impl_areCommits.l0 : Nat → List (S64) → List (S64) → Int → Int → Option (Bool)
  | 0, _, _, _, _ => none
  | k + 1, x0, x5, x6, x7 => if x7 < x6 then (if 0 ≤ x7 then (if x7 < (x5.length : Int) then ((impl_Commit_isAt.f k ((rd_T64 x5 x7).f0) ((rd_T64 x5 x7).f1) (wrap64 (x7 + 1))).bind fun t265 => (if t265 = true then (impl_areCommits.l0 k x0 x5 x6 (wrap64 (x7 + 1))) else (some false))) else (none)) else (none)) else (some (decide ((x0.length : Int) ≤ 60)))
def impl_areCommits.f (k : Nat) (l0 : List (S64)) : Option (Bool) := impl_areCommits.l0 k l0 l0 (l0.length : Int) 0
set_option maxHeartbeats 8000000 in
set_option maxRecDepth 100000 in
theorem impl_areCommits.calls (k : Nat) (A0 : Option Addr) (c0 : Nat) (l0 : List (S64)) (r : Bool) (w : World) (hr0 : Kd.C k64 w A0 l0.length l0) (hc0 : l0.length ≤ c0) (h : impl_areCommits.f k l0 = some r) :
    Calls Tryz.prog 98 #[.slice A0 l0.length c0] w fun e w' => e = .returned (.bool r) ∧ Below w.heap.size w w' := by
  have hu64 := Tryz.underlying64
  have HR0 := Aside0.mk hr0
  have HC0 := Aside0.mk hc0
  clear hr0 hc0
  have HB := Aside0.mk (Below.refl w.heap.size w)
  have H : (impl_areCommits.l0 k l0 l0 (l0.length : Int) 0) = some r := h
  clear h
  have H' := Aside0.mk H
  clear H
  go_enter Tryz.func98, Tryz.ntmps98
  go_wp2
  go_loopg [7] k (fun kq v7 w' => ∃ (x7_1 : Int), v7 = .int .i64 x7_1 ∧ Aside0 (impl_areCommits.l0 kq l0 l0 (l0.length : Int) x7_1 = some r) ∧ Aside0 (kq ≤ k) ∧ Aside0 (Below w.heap.size w w'))
  case atStart => exact ⟨(0), vE, H', ⟨Nat.le_refl _⟩, ⟨bW⟩⟩
  case round =>
    clear H'
    obtain ⟨x7_1, rfl, HA, HK1, HB⟩ := hrel
    cases gk with
    | zero => exact absurd HA.out (by simp [impl_areCommits.l0])
    | succ k1 =>
      have H := HA.out
      clear HA
      simp only [impl_areCommits.l0] at H
      by_cases c2 : x7_1 < (l0.length : Int)
      · rw [if_pos c2] at H
        have c2b0 : decide (x7_1 < (l0.length : Int)) = true := decide_eq_true c2
        clear c2
        by_cases c3 : 0 ≤ x7_1
        · rw [if_pos c3] at H
          have c3b0 : decide (0 ≤ x7_1) = true := decide_eq_true c3
          clear c3
          by_cases c4 : x7_1 < (l0.length : Int)
          · rw [if_pos c4] at H
            have c4b0 : decide (x7_1 < (l0.length : Int)) = true := decide_eq_true c4
            clear c4
            replace H := Option.bind_eq_some_iff.mp H
            obtain ⟨t265, A50, H⟩ := H
            replace H : (if t265 = true then (impl_areCommits.l0 k1 l0 l0 (l0.length : Int) (wrap64 (x7_1 + 1))) else (some false)) = some r := H
            have A5 := Aside0.mk A50
            clear A50
            by_cases c6 : t265 = true
            · subst c6
              have H1 : (impl_areCommits.l0 k1 l0 l0 (l0.length : Int) (wrap64 (x7_1 + 1))) = some r := by rw [if_pos rfl] at H; exact H
              clear H
              have H := H1
              clear H1
              have H' := Aside0.mk H
              clear H
              have p263 : 0 ≤ (x7_1 : Int) := odt
              have q263 : x7_1 < (l0.length : Int) := odt
              obtain ⟨ad263, A263_0, c263_0, A263_1, c263_1, e263, hx263_0, hx263_1, hl263_0, hi263_0, hl263_1, hi263_1⟩ := at_T64 HR0.out x7_1 p263 q263
              cases e263
              replace hx263_0 := (HB.out.cell (World.block_lt_of_cell? w _ hx263_0)).trans hx263_0
              replace hx263_1 := (HB.out.cell (World.block_lt_of_cell? w _ hx263_1)).trans hx263_1
              have HR263_0 := Aside0.mk hi263_0
              have HC263_0 := Aside0.mk hl263_0
              clear hi263_0 hl263_0
              have HR263_1 := Aside0.mk hi263_1
              have HC263_1 := Aside0.mk hl263_1
              clear hi263_1 hl263_1
              replace p263 := eq_true p263
              replace q263 := eq_true q263
              go_wp2_with (first | ((with_reducible refine gate_dst (N := 4) rfl ?_); refine bE (N := 4) (cs := #[.slice none 0 0, .slice none 0 0]) (t := 64) ?_; intro gb264 hg w7 hbox hb; have n0_ := Aside0.mk (below_step (w := w) bW hb); have n1_ := Aside0.mk (hbox); have n2_ := Aside0.mk (gS (w := w) hg); have n3_ := n2_; clear HB; have HB := n0_; have BK264 := n1_; have GW264 := n2_; have GE264 := n3_; clear n0_ n1_ n2_ n3_; clear hb hbox hg; obtain ⟨hcz8_0, hcz8_1⟩ := cz2 BK264; obtain ⟨hfz8_0, hfz8_1⟩ := fz2 BK264) | ((with_reducible refine gate_callee (f := 122) rfl ?_); refine goesL_ (some 15) rfl rfl Tryz.func122 (by kernel_rfl) rfl #[.agg #[.slice A263_0 ((rd_T64 l0 x7_1).f0).length c263_0, .slice A263_1 ((rd_T64 l0 x7_1).f1).length c263_1], .int .i64 (wrap64 (x7_1 + 1))] rfl gA ?_; (with_reducible refine (impl_Commit_isAt.calls k1 _ _ ((rd_T64 l0 x7_1).f0) _ _ ((rd_T64 l0 x7_1).f1) (wrap64 (x7_1 + 1)) true _ ?side1 ?side2 ?side3 ?side4 A5.out).mono ?_); (case side1 => exact Kd.C_below HR263_0.out bW); (case side2 => exact HC263_0.out); (case side3 => exact Kd.C_below HR263_1.out bW); (case side4 => exact HC263_1.out); rintro e w9 ⟨rfl, hb⟩; refine ⟨_, rfl, ?_⟩; have n0_ := Aside0.mk (blk_below (g := gb264) (o := .cells #[.slice A263_0 ((rd_T64 l0 x7_1).f0).length c263_0, .slice A263_1 ((rd_T64 l0 x7_1).f1).length c263_1] 64 (0, 0)) (by refine blk_put (cs := #[.slice A263_0 ((rd_T64 l0 x7_1).f0).length c263_0, .slice none 0 0]) ?_ 1 _ rfl; refine blk_put (cs := #[.slice none 0 0, .slice none 0 0]) ?_ 0 _ rfl; exact BK264.out) hb); have n1_ := Aside0.mk (below_step (w := w) bW hb); clear BK264; clear HB; have BK264 := n0_; have HB := n1_; clear n0_ n1_; (try clear hb)))
              go_roundg k1
              case measure => have := HK1.out; omega
              case rel => exact ⟨(wrap64 (x7_1 + 1)), vE, H', ⟨by have := HK1.out; omega⟩, ⟨bW⟩⟩
            · replace c6 := Bool.eq_false_iff.mpr c6
              subst c6
              have H1 : (some false) = some r := by rw [if_neg (show ¬ (false = true) by decide)] at H; exact H
              clear H
              have H := H1
              clear H1
              obtain rfl := Option.some.inj H
              have p263 : 0 ≤ (x7_1 : Int) := odt
              have q263 : x7_1 < (l0.length : Int) := odt
              obtain ⟨ad263, A263_0, c263_0, A263_1, c263_1, e263, hx263_0, hx263_1, hl263_0, hi263_0, hl263_1, hi263_1⟩ := at_T64 HR0.out x7_1 p263 q263
              cases e263
              replace hx263_0 := (HB.out.cell (World.block_lt_of_cell? w _ hx263_0)).trans hx263_0
              replace hx263_1 := (HB.out.cell (World.block_lt_of_cell? w _ hx263_1)).trans hx263_1
              have HR263_0 := Aside0.mk hi263_0
              have HC263_0 := Aside0.mk hl263_0
              clear hi263_0 hl263_0
              have HR263_1 := Aside0.mk hi263_1
              have HC263_1 := Aside0.mk hl263_1
              clear hi263_1 hl263_1
              replace p263 := eq_true p263
              replace q263 := eq_true q263
              go_wp2_with (first | ((with_reducible refine gate_dst (N := 4) rfl ?_); refine bE (N := 4) (cs := #[.slice none 0 0, .slice none 0 0]) (t := 64) ?_; intro gb264 hg w10 hbox hb; have n0_ := Aside0.mk (below_step (w := w) bW hb); have n1_ := Aside0.mk (hbox); have n2_ := Aside0.mk (gS (w := w) hg); have n3_ := n2_; clear HB; have HB := n0_; have BK264 := n1_; have GW264 := n2_; have GE264 := n3_; clear n0_ n1_ n2_ n3_; clear hb hbox hg; obtain ⟨hcz11_0, hcz11_1⟩ := cz2 BK264; obtain ⟨hfz11_0, hfz11_1⟩ := fz2 BK264) | ((with_reducible refine gate_callee (f := 122) rfl ?_); refine goesL_ (some 15) rfl rfl Tryz.func122 (by kernel_rfl) rfl #[.agg #[.slice A263_0 ((rd_T64 l0 x7_1).f0).length c263_0, .slice A263_1 ((rd_T64 l0 x7_1).f1).length c263_1], .int .i64 (wrap64 (x7_1 + 1))] rfl gA ?_; (with_reducible refine (impl_Commit_isAt.calls k1 _ _ ((rd_T64 l0 x7_1).f0) _ _ ((rd_T64 l0 x7_1).f1) (wrap64 (x7_1 + 1)) false _ ?side1 ?side2 ?side3 ?side4 A5.out).mono ?_); (case side1 => exact Kd.C_below HR263_0.out bW); (case side2 => exact HC263_0.out); (case side3 => exact Kd.C_below HR263_1.out bW); (case side4 => exact HC263_1.out); rintro e w12 ⟨rfl, hb⟩; refine ⟨_, rfl, ?_⟩; have n0_ := Aside0.mk (blk_below (g := gb264) (o := .cells #[.slice A263_0 ((rd_T64 l0 x7_1).f0).length c263_0, .slice A263_1 ((rd_T64 l0 x7_1).f1).length c263_1] 64 (0, 0)) (by refine blk_put (cs := #[.slice A263_0 ((rd_T64 l0 x7_1).f0).length c263_0, .slice none 0 0]) ?_ 1 _ rfl; refine blk_put (cs := #[.slice none 0 0, .slice none 0 0]) ?_ 0 _ rfl; exact BK264.out) hb); have n1_ := Aside0.mk (below_step (w := w) bW hb); clear BK264; clear HB; have BK264 := n0_; have HB := n1_; clear n0_ n1_; (try clear hb)))
              go_ret
              exact ⟨rE, bW⟩
          · rw [if_neg c4] at H
            exact absurd H (by simp)
        · rw [if_neg c3] at H
          exact absurd H (by simp)
      · rw [if_neg c2] at H
        have c2b0 : decide (x7_1 < (l0.length : Int)) = false := decide_eq_false c2
        clear c2
        obtain rfl := Option.some.inj H
        go_wp2
        go_ret
        exact ⟨rE, bW⟩
end Go.Proofs.YtblejbgkcgajgaaGreat.Q
end

section
namespace Go.Proofs.YtblejbgkcgajgaaGreat.Q
open Go.RowKit Go.Proofs.YtblejbgkcgajgaaGreatW.PrintWords Go.Proofs.YtblejbgkcgajgaaGreatW.PrintLast Go.Proofs.YtblejbgkcgajgaaGreatW.PrintMore
attribute [local go_sem] max2_int min2_int max_two min_two max_three min_three max_four min_four   -- for this text's walks alone
set_option linter.unusedVariables false
set_option linter.unusedSimpArgs false
attribute [local go_sem] bin_leq bin_gtr bin_geq
def impl_StoreOK.f (k : Nat) (l0 : List (S64)) : Option (Bool) := if (l0.length : Int) > 0 then ((impl_Commit.f l0).bind fun t266 => (if t266 = true then ((impl_areCommits.f k l0).bind fun t267 => (some t267)) else (some false))) else (some false)
set_option maxHeartbeats 8000000 in
set_option maxRecDepth 100000 in
theorem impl_StoreOK.calls (k : Nat) (A0 : Option Addr) (c0 : Nat) (l0 : List (S64)) (r : Bool) (w : World) (hr0 : Kd.C k64 w A0 l0.length l0) (hc0 : l0.length ≤ c0) (h : impl_StoreOK.f k l0 = some r) :
    Calls Tryz.prog 72 #[.slice A0 l0.length c0] w fun e w' => e = .returned (.bool r) ∧ Below w.heap.size w w' := by
  have HR0 := Aside0.mk hr0
  have HC0 := Aside0.mk hc0
  clear hr0 hc0
  have HB := Aside0.mk (Below.refl w.heap.size w)
  have H : (if (l0.length : Int) > 0 then ((impl_Commit.f l0).bind fun t266 => (if t266 = true then ((impl_areCommits.f k l0).bind fun t267 => (some t267)) else (some false))) else (some false)) = some r := h
  clear h
  by_cases c2 : (l0.length : Int) > 0
  · rw [if_pos c2] at H
    have c2b0 : decide (0 < (l0.length : Int)) = true := decide_eq_true c2
    have c2b1 : decide (0 < l0.length) = true := decide_eq_true (by omega)
    clear c2
    replace H := Option.bind_eq_some_iff.mp H
    obtain ⟨t266, A30, H⟩ := H
    replace H : (if t266 = true then ((impl_areCommits.f k l0).bind fun t267 => (some t267)) else (some false)) = some r := H
    have A3 := Aside0.mk A30
    clear A30
    by_cases c4 : t266 = true
    · subst c4
      have H1 : ((impl_areCommits.f k l0).bind fun t267 => (some t267)) = some r := by rw [if_pos rfl] at H; exact H
      clear H
      have H := H1
      clear H1
      replace H := Option.bind_eq_some_iff.mp H
      obtain ⟨t267, A50, H⟩ := H
      replace H : (some t267) = some r := H
      have A5 := Aside0.mk A50
      clear A50
      obtain rfl := Option.some.inj H
      go_enter Tryz.func72, Tryz.ntmps72
      go_wp2_with (first | (go_at_call 71; (with_reducible refine (impl_Commit.calls _ _ l0 true _ ?side1 ?side2 A3.out).mono ?_); (case side1 => exact cN HR0); (case side2 => exact HC0.out); rintro e w' ⟨rfl, ⟨nd, rfl⟩⟩) | (go_at_call 98; (with_reducible refine (impl_areCommits.calls k _ _ l0 t267 _ ?side1 ?side2 A5.out).mono ?_); (case side1 => exact cN HR0); (case side2 => exact HC0.out); rintro e w6 ⟨rfl, hb⟩; have n0_ := Aside0.mk (below_step (w := w) bW hb); clear HB; have HB := n0_; clear n0_; (try clear hb); (try clear hb2); (try clear hk); (try clear hi)))
      go_ret
      exact ⟨rE, bW⟩
    · replace c4 := Bool.eq_false_iff.mpr c4
      subst c4
      have H1 : (some false) = some r := by rw [if_neg (show ¬ (false = true) by decide)] at H; exact H
      clear H
      have H := H1
      clear H1
      obtain rfl := Option.some.inj H
      go_enter Tryz.func72, Tryz.ntmps72
      go_wp2_with (first | (go_at_call 71; (with_reducible refine (impl_Commit.calls _ _ l0 false _ ?side1 ?side2 A3.out).mono ?_); (case side1 => exact cN HR0); (case side2 => exact HC0.out); rintro e w' ⟨rfl, ⟨nd, rfl⟩⟩))
      go_ret
      exact ⟨rE, bW⟩
  · rw [if_neg c2] at H
    have c2b0 : decide (0 < (l0.length : Int)) = false := decide_eq_false c2
    have c2b1 : decide (0 < l0.length) = false := decide_eq_false (by omega)
    clear c2
    obtain rfl := Option.some.inj H
    go_enter Tryz.func72, Tryz.ntmps72
    go_wp2
    go_ret
    exact ⟨rE, bW⟩
end Go.Proofs.YtblejbgkcgajgaaGreat.Q
end

section
namespace Go.Proofs.YtblejbgkcgajgaaGreat.Q
open Go.RowKit Go.Proofs.YtblejbgkcgajgaaGreatW.PrintWords Go.Proofs.YtblejbgkcgajgaaGreatW.PrintLast Go.Proofs.YtblejbgkcgajgaaGreatW.PrintMore
attribute [local go_sem] max2_int min2_int max_two min_two max_three min_three max_four min_four   -- for this text's walks alone
set_option linter.unusedVariables false
set_option linter.unusedSimpArgs false
attribute [local go_sem] bin_leq bin_gtr bin_geq
def areAllint_idCode.f (l0 : List Int) (l1 : List (S64)) : Option (Bool) := some (l0.all (fun x => inB x 1 l1.length))
theorem within_f3 (a b c : Int) : impl_within.f a b c = some (inB a b c) := by
  unfold impl_within.f inB
  by_cases h : b ≤ a <;> simp [h]
theorem idCode_asks (A1 : Option Addr) (c1 n : Nat) (B : Nat) (l : List Int) (w : World) (hB : B < w.heap.size) (hc : w.cell? ⟨B, 0, none⟩ = some (.slice A1 n c1)) :
    Asks_int 74 #[.pointer (some ⟨B, 0, none⟩)] (fun x => inB x 1 n) w l := by
  intro W x hW hx
  have hc' : W.cell? ⟨B, 0, none⟩ = some (.slice A1 n c1) := (hW.cell (p := ⟨B, 0, none⟩) hB).trans hc
  have A2 := Aside0.mk (within_f3 x 1 n)
  clear hx hW hc hB
  go_enter Tryz.func74, Tryz.ntmps74
  go_wp2_with (go_at_call 58; (with_reducible refine (impl_within.calls _ _ _ _ _ A2.out).mono ?_); rintro e w' ⟨rfl, ⟨n, rfl⟩⟩)
  go_ret
  exact ⟨rfl, by repeat (first | exact Below.refl _ _ | apply pw_below_drewN)⟩
theorem areAllint_idCode.calls (A0 : Option Addr) (c0 : Nat) (l0 : List Int) (A1 : Option Addr) (c1 : Nat) (l1 : List (S64)) {B : Nat} (r : Bool) (w : World) (hr0 : Kd.C (Kd.int .i64) w A0 l0.length l0) (hc0 : l0.length ≤ c0) (hr1 : Kd.C k64 w A1 l1.length l1) (hc1 : l1.length ≤ c1) (hk : w.heap[B]? = some (.cells #[.slice A1 l1.length c1] 33 (0, 0))) (h : areAllint_idCode.f l0 l1 = some r) :
    Calls Tryz.prog 73 #[.slice A0 l0.length c0, .func (.func 74) #[] #[.pointer (some ⟨B, 0, none⟩)]] w fun e w' => e = .returned (.bool r) ∧ Below w.heap.size w w' := by
  obtain rfl := Option.some.inj h
  exact allF_int 74 #[.pointer (some ⟨B, 0, none⟩)] (enters_ Tryz.func74 (by kernel_rfl) rfl) _ A0 c0 l0 w hr0 hc0 (idCode_asks A1 c1 l1.length B l0 w (blk_lt hk) ((blk_cell hk 0).trans rfl))
end Go.Proofs.YtblejbgkcgajgaaGreat.Q
end

section
namespace Go.Proofs.YtblejbgkcgajgaaGreat.Q
open Go.RowKit Go.Proofs.YtblejbgkcgajgaaGreatW.PrintWords Go.Proofs.YtblejbgkcgajgaaGreatW.PrintLast Go.Proofs.YtblejbgkcgajgaaGreatW.PrintMore
attribute [local go_sem] max2_int min2_int max_two min_two max_three min_three max_four min_four   -- for this text's walks alone
set_option linter.unusedVariables false
set_option linter.unusedSimpArgs false
attribute [local go_sem] bin_leq bin_gtr bin_geq
def impl_idCode.f (k : Nat) (l0 : List (S64)) (l1 : List Int) : Option (Int) := (impl_Commit.f l0).bind fun t579 => (if t579 = true then ((impl_StoreOK.f k l0).bind fun t580 => (if t580 = true then ((areAllint_idCode.f l1 l0).bind fun t581 => (if t581 = true then (some 0) else (some 5))) else (some 1))) else (some 2))
set_option maxHeartbeats 8000000 in
set_option maxRecDepth 100000 in
theorem impl_idCode.calls (k : Nat) (A0 : Option Addr) (c0 : Nat) (l0 : List (S64)) (A1 : Option Addr) (c1 : Nat) (l1 : List Int) (r : Int) (w : World) (hr0 : Kd.C k64 w A0 l0.length l0) (hc0 : l0.length ≤ c0) (hr1 : Kd.C (Kd.int .i64) w A1 l1.length l1) (hc1 : l1.length ≤ c1) (h : impl_idCode.f k l0 l1 = some r) :
    Calls Tryz.prog 45 #[.slice A0 l0.length c0, .slice A1 l1.length c1] w fun e w' => e = .returned (.int .i64 r) ∧ Below w.heap.size w w' := by
  have HR0 := Aside0.mk hr0
  have HC0 := Aside0.mk hc0
  clear hr0 hc0
  have HR1 := Aside0.mk hr1
  have HC1 := Aside0.mk hc1
  clear hr1 hc1
  have HB := Aside0.mk (Below.refl w.heap.size w)
  have H : ((impl_Commit.f l0).bind fun t579 => (if t579 = true then ((impl_StoreOK.f k l0).bind fun t580 => (if t580 = true then ((areAllint_idCode.f l1 l0).bind fun t581 => (if t581 = true then (some 0) else (some 5))) else (some 1))) else (some 2))) = some r := h
  clear h
  replace H := Option.bind_eq_some_iff.mp H
  obtain ⟨t579, A30, H⟩ := H
  replace H : (if t579 = true then ((impl_StoreOK.f k l0).bind fun t580 => (if t580 = true then ((areAllint_idCode.f l1 l0).bind fun t581 => (if t581 = true then (some 0) else (some 5))) else (some 1))) else (some 2)) = some r := H
  have A3 := Aside0.mk A30
  clear A30
  by_cases c4 : t579 = true
  · subst c4
    have H1 : ((impl_StoreOK.f k l0).bind fun t580 => (if t580 = true then ((areAllint_idCode.f l1 l0).bind fun t581 => (if t581 = true then (some 0) else (some 5))) else (some 1))) = some r := by rw [if_pos rfl] at H; exact H
    clear H
    have H := H1
    clear H1
    replace H := Option.bind_eq_some_iff.mp H
    obtain ⟨t580, A50, H⟩ := H
    replace H : (if t580 = true then ((areAllint_idCode.f l1 l0).bind fun t581 => (if t581 = true then (some 0) else (some 5))) else (some 1)) = some r := H
    have A5 := Aside0.mk A50
    clear A50
    by_cases c6 : t580 = true
    · subst c6
      have H1 : ((areAllint_idCode.f l1 l0).bind fun t581 => (if t581 = true then (some 0) else (some 5))) = some r := by rw [if_pos rfl] at H; exact H
      clear H
      have H := H1
      clear H1
      replace H := Option.bind_eq_some_iff.mp H
      obtain ⟨t581, A70, H⟩ := H
      replace H : (if t581 = true then (some 0) else (some 5)) = some r := H
      have A7 := Aside0.mk A70
      clear A70
      by_cases c8 : t581 = true
      · subst c8
        have H1 : (some 0) = some r := by rw [if_pos rfl] at H; exact H
        clear H
        have H := H1
        clear H1
        obtain rfl := Option.some.inj H
        go_enter Tryz.func45, Tryz.ntmps45
        go_wp2_with (first | ((with_reducible refine gate_dst (N := 2) rfl ?_); refine bE (N := 2) (cs := #[.slice A0 l0.length c0]) (t := 33) ?_; intro gb578 hg w9 hbox hb; have n0_ := Aside0.mk (below_step (w := w) bW hb); have n1_ := Aside0.mk (hbox); have n2_ := Aside0.mk (gS (w := w) hg); have n3_ := n2_; clear HB; have HB := n0_; have BK578 := n1_; have GW578 := n2_; have GE578 := n3_; clear n0_ n1_ n2_ n3_; clear hb hbox hg; have hcz10_0 : w9.cell? ⟨gb578, 0, none⟩ = some (.slice A0 l0.length c0) := (blk_cell BK578.out 0).trans rfl; have hfz10_0 := fz1 BK578) | ((with_reducible refine gate_callee (f := 71) rfl ?_); refine goesL_ (some 7) rfl rfl Tryz.func71 (by kernel_rfl) rfl #[.slice A0 l0.length c0] rfl gA ?_; (with_reducible refine (impl_Commit.calls _ _ l0 true _ ?side1 ?side2 A3.out).mono ?_); (case side1 => exact cB HR0); (case side2 => exact HC0.out); rintro e w' ⟨rfl, ⟨nd, rfl⟩⟩; refine ⟨_, rfl, ?_⟩) | ((with_reducible refine gate_callee (f := 72) rfl ?_); refine goesL_ (some 11) rfl rfl Tryz.func72 (by kernel_rfl) rfl #[.slice A0 l0.length c0] rfl gA ?_; (with_reducible refine (impl_StoreOK.calls k _ _ l0 true _ ?side1 ?side2 A5.out).mono ?_); (case side1 => exact cB HR0); (case side2 => exact HC0.out); rintro e w11 ⟨rfl, hb⟩; refine ⟨_, rfl, ?_⟩; have n0_ := Aside0.mk (kb BK578 hb); have n1_ := Aside0.mk (below_step (w := w) bW hb); clear BK578; clear HB; have BK578 := n0_; have HB := n1_; clear n0_ n1_; (try clear hb)) | ((with_reducible refine gate_callee (f := 73) rfl ?_); refine goesL_ (some 16) rfl rfl Tryz.func73 (by kernel_rfl) rfl #[.slice A1 l1.length c1, .func (.func 74) #[] #[.pointer (some ⟨gb578, 0, none⟩)]] rfl gA ?_; (with_reducible refine (areAllint_idCode.calls _ _ l1 A0 c0 l0 true _ ?side1 ?side2 ?side3 ?side4 ?side5 A7.out).mono ?_); (case side1 => exact cB HR1); (case side2 => exact HC1.out); (case side3 => exact cB HR0); (case side4 => exact HC0.out); (case side5 => exact (kB BK578)); rintro e w12 ⟨rfl, hb⟩; refine ⟨_, rfl, ?_⟩; have n0_ := Aside0.mk (kb BK578 hb); have n1_ := Aside0.mk (below_step (w := w) bW hb); clear BK578; clear HB; have BK578 := n0_; have HB := n1_; clear n0_ n1_; (try clear hb)))
        go_ret
        exact ⟨rE, bW⟩
      · replace c8 := Bool.eq_false_iff.mpr c8
        subst c8
        have H1 : (some 5) = some r := by rw [if_neg (show ¬ (false = true) by decide)] at H; exact H
        clear H
        have H := H1
        clear H1
        obtain rfl := Option.some.inj H
        go_enter Tryz.func45, Tryz.ntmps45
        go_wp2_with (first | ((with_reducible refine gate_dst (N := 2) rfl ?_); refine bE (N := 2) (cs := #[.slice A0 l0.length c0]) (t := 33) ?_; intro gb578 hg w13 hbox hb; have n0_ := Aside0.mk (below_step (w := w) bW hb); have n1_ := Aside0.mk (hbox); have n2_ := Aside0.mk (gS (w := w) hg); have n3_ := n2_; clear HB; have HB := n0_; have BK578 := n1_; have GW578 := n2_; have GE578 := n3_; clear n0_ n1_ n2_ n3_; clear hb hbox hg; have hcz14_0 : w13.cell? ⟨gb578, 0, none⟩ = some (.slice A0 l0.length c0) := (blk_cell BK578.out 0).trans rfl; have hfz14_0 := fz1 BK578) | ((with_reducible refine gate_callee (f := 71) rfl ?_); refine goesL_ (some 7) rfl rfl Tryz.func71 (by kernel_rfl) rfl #[.slice A0 l0.length c0] rfl gA ?_; (with_reducible refine (impl_Commit.calls _ _ l0 true _ ?side1 ?side2 A3.out).mono ?_); (case side1 => exact cB HR0); (case side2 => exact HC0.out); rintro e w' ⟨rfl, ⟨nd, rfl⟩⟩; refine ⟨_, rfl, ?_⟩) | ((with_reducible refine gate_callee (f := 72) rfl ?_); refine goesL_ (some 11) rfl rfl Tryz.func72 (by kernel_rfl) rfl #[.slice A0 l0.length c0] rfl gA ?_; (with_reducible refine (impl_StoreOK.calls k _ _ l0 true _ ?side1 ?side2 A5.out).mono ?_); (case side1 => exact cB HR0); (case side2 => exact HC0.out); rintro e w15 ⟨rfl, hb⟩; refine ⟨_, rfl, ?_⟩; have n0_ := Aside0.mk (kb BK578 hb); have n1_ := Aside0.mk (below_step (w := w) bW hb); clear BK578; clear HB; have BK578 := n0_; have HB := n1_; clear n0_ n1_; (try clear hb)) | ((with_reducible refine gate_callee (f := 73) rfl ?_); refine goesL_ (some 16) rfl rfl Tryz.func73 (by kernel_rfl) rfl #[.slice A1 l1.length c1, .func (.func 74) #[] #[.pointer (some ⟨gb578, 0, none⟩)]] rfl gA ?_; (with_reducible refine (areAllint_idCode.calls _ _ l1 A0 c0 l0 false _ ?side1 ?side2 ?side3 ?side4 ?side5 A7.out).mono ?_); (case side1 => exact cB HR1); (case side2 => exact HC1.out); (case side3 => exact cB HR0); (case side4 => exact HC0.out); (case side5 => exact (kB BK578)); rintro e w16 ⟨rfl, hb⟩; refine ⟨_, rfl, ?_⟩; have n0_ := Aside0.mk (kb BK578 hb); have n1_ := Aside0.mk (below_step (w := w) bW hb); clear BK578; clear HB; have BK578 := n0_; have HB := n1_; clear n0_ n1_; (try clear hb)))
        go_ret
        exact ⟨rE, bW⟩
    · replace c6 := Bool.eq_false_iff.mpr c6
      subst c6
      have H1 : (some 1) = some r := by rw [if_neg (show ¬ (false = true) by decide)] at H; exact H
      clear H
      have H := H1
      clear H1
      obtain rfl := Option.some.inj H
      go_enter Tryz.func45, Tryz.ntmps45
      go_wp2_with (first | ((with_reducible refine gate_dst (N := 2) rfl ?_); refine bE (N := 2) (cs := #[.slice A0 l0.length c0]) (t := 33) ?_; intro gb578 hg w17 hbox hb; have n0_ := Aside0.mk (below_step (w := w) bW hb); have n1_ := Aside0.mk (hbox); have n2_ := Aside0.mk (gS (w := w) hg); have n3_ := n2_; clear HB; have HB := n0_; have BK578 := n1_; have GW578 := n2_; have GE578 := n3_; clear n0_ n1_ n2_ n3_; clear hb hbox hg; have hcz18_0 : w17.cell? ⟨gb578, 0, none⟩ = some (.slice A0 l0.length c0) := (blk_cell BK578.out 0).trans rfl; have hfz18_0 := fz1 BK578) | ((with_reducible refine gate_callee (f := 71) rfl ?_); refine goesL_ (some 7) rfl rfl Tryz.func71 (by kernel_rfl) rfl #[.slice A0 l0.length c0] rfl gA ?_; (with_reducible refine (impl_Commit.calls _ _ l0 true _ ?side1 ?side2 A3.out).mono ?_); (case side1 => exact cB HR0); (case side2 => exact HC0.out); rintro e w' ⟨rfl, ⟨nd, rfl⟩⟩; refine ⟨_, rfl, ?_⟩) | ((with_reducible refine gate_callee (f := 72) rfl ?_); refine goesL_ (some 11) rfl rfl Tryz.func72 (by kernel_rfl) rfl #[.slice A0 l0.length c0] rfl gA ?_; (with_reducible refine (impl_StoreOK.calls k _ _ l0 false _ ?side1 ?side2 A5.out).mono ?_); (case side1 => exact cB HR0); (case side2 => exact HC0.out); rintro e w19 ⟨rfl, hb⟩; refine ⟨_, rfl, ?_⟩; have n0_ := Aside0.mk (kb BK578 hb); have n1_ := Aside0.mk (below_step (w := w) bW hb); clear BK578; clear HB; have BK578 := n0_; have HB := n1_; clear n0_ n1_; (try clear hb)))
      go_ret
      exact ⟨rE, bW⟩
  · replace c4 := Bool.eq_false_iff.mpr c4
    subst c4
    have H1 : (some 2) = some r := by rw [if_neg (show ¬ (false = true) by decide)] at H; exact H
    clear H
    have H := H1
    clear H1
    obtain rfl := Option.some.inj H
    go_enter Tryz.func45, Tryz.ntmps45
    go_wp2_with (first | ((with_reducible refine gate_dst (N := 2) rfl ?_); refine bE (N := 2) (cs := #[.slice A0 l0.length c0]) (t := 33) ?_; intro gb578 hg w20 hbox hb; have n0_ := Aside0.mk (below_step (w := w) bW hb); have n1_ := Aside0.mk (hbox); have n2_ := Aside0.mk (gS (w := w) hg); have n3_ := n2_; clear HB; have HB := n0_; have BK578 := n1_; have GW578 := n2_; have GE578 := n3_; clear n0_ n1_ n2_ n3_; clear hb hbox hg; have hcz21_0 : w20.cell? ⟨gb578, 0, none⟩ = some (.slice A0 l0.length c0) := (blk_cell BK578.out 0).trans rfl; have hfz21_0 := fz1 BK578) | ((with_reducible refine gate_callee (f := 71) rfl ?_); refine goesL_ (some 7) rfl rfl Tryz.func71 (by kernel_rfl) rfl #[.slice A0 l0.length c0] rfl gA ?_; (with_reducible refine (impl_Commit.calls _ _ l0 false _ ?side1 ?side2 A3.out).mono ?_); (case side1 => exact cB HR0); (case side2 => exact HC0.out); rintro e w' ⟨rfl, ⟨nd, rfl⟩⟩; refine ⟨_, rfl, ?_⟩))
    go_ret
    exact ⟨rE, bW⟩
end Go.Proofs.YtblejbgkcgajgaaGreat.Q
end

section
namespace Go.Proofs.YtblejbgkcgajgaaGreat.Q
open Go.RowKit Go.Proofs.YtblejbgkcgajgaaGreatW.PrintWords Go.Proofs.YtblejbgkcgajgaaGreatW.PrintLast Go.Proofs.YtblejbgkcgajgaaGreatW.PrintMore
attribute [local go_sem] max2_int min2_int max_two min_two max_three min_three max_four min_four   -- for this text's walks alone
set_option linter.unusedVariables false
set_option linter.unusedSimpArgs false
attribute [local go_sem] bin_leq bin_gtr bin_geq
mutual
def impl_ancestors.l0 : Nat → List (S64) → List Bool → Int → Option (List Bool)
  | 0, _, _, _ => none
  | k + 1, x0, x5, x6 => if x6 > 0 then (if 0 ≤ x6 then (if x6 < (x5.length : Int) then (if rdOf false x5 x6 = true then (if 0 ≤ (wrap64 (x6 - 1)) then (if (wrap64 (x6 - 1)) < (x0.length : Int) then (impl_ancestors.l1 k x0 x5 x6 ((rd_T64 x0 (wrap64 (x6 - 1))).f0) (((rd_T64 x0 (wrap64 (x6 - 1))).f0).length : Int) 0) else (none)) else (none)) else (impl_ancestors.l0 k x0 x5 (wrap64 (x6 - 1)))) else (none)) else (none)) else (some x5)
def impl_ancestors.l1 : Nat → List (S64) → List Bool → Int → List Int → Int → Int → Option (List Bool)
  | 0, _, _, _, _, _, _ => none
  | k + 1, x0, x5, x6, x30, x31, x32 => if x32 < x31 then (if 0 ≤ x32 then (if x32 < (x30.length : Int) then (if 0 ≤ (rd x30 x32) then (if (rd x30 x32) < (x5.length : Int) then (impl_ancestors.l1 k x0 (x5.set ((rd x30 x32) : Int).toNat true) x6 x30 x31 (wrap64 (x32 + 1))) else (none)) else (none)) else (none)) else (none)) else (impl_ancestors.l0 k x0 x5 (wrap64 (x6 - 1)))
end
def impl_ancestors.f (k : Nat) (l0 : List (S64)) (a1 : Int) : Option (List Bool) := if 0 ≤ (wrap64 ((l0.length : Int) + 1)) then (if (wrap64 ((l0.length : Int) + 1) : Int).toNat ≤ 281474976710656 then ((some (List.replicate (wrap64 ((l0.length : Int) + 1) : Int).toNat false : List Bool)).bind fun y582 => (if 0 ≤ a1 then (if a1 < (y582.length : Int) then (impl_ancestors.l0 k l0 (y582.set (a1 : Int).toNat true) a1) else (none)) else (none))) else (none)) else (none)
set_option maxHeartbeats 8000000 in
set_option maxRecDepth 100000 in
theorem impl_ancestors.calls (k : Nat) (A0 : Option Addr) (c0 : Nat) (l0 : List (S64)) (a1 : Int) (r : List Bool) (w : World) (hr0 : Kd.C k64 w A0 l0.length l0) (hc0 : l0.length ≤ c0) (h : impl_ancestors.f k l0 a1 = some r) :
    Calls Tryz.prog 101 #[.slice A0 l0.length c0, .int .i64 a1] w fun e w' => ∃ v0_ : Value, e = .returned (v0_) ∧ Kd.R Kd.bool 4 w' w.heap.size (fun _ => True) v0_ r ∧ Below w.heap.size w w' := by
  have HR0 := Aside0.mk hr0
  have HC0 := Aside0.mk hc0
  clear hr0 hc0
  have HB := Aside0.mk (Below.refl w.heap.size w)
  have H : (if 0 ≤ (wrap64 ((l0.length : Int) + 1)) then (if (wrap64 ((l0.length : Int) + 1) : Int).toNat ≤ 281474976710656 then ((some (List.replicate (wrap64 ((l0.length : Int) + 1) : Int).toNat false : List Bool)).bind fun y582 => (if 0 ≤ a1 then (if a1 < (y582.length : Int) then (impl_ancestors.l0 k l0 (y582.set (a1 : Int).toNat true) a1) else (none)) else (none))) else (none)) else (none)) = some r := h
  clear h
  obtain ⟨ji3, hji3⟩ : ∃ j_ : Int, (wrap64 ((l0.length : Int) + 1)) = j_ := ⟨_, rfl⟩
  replace H : (if 0 ≤ (ji3) then (if (ji3 : Int).toNat ≤ 281474976710656 then ((some (List.replicate (ji3 : Int).toNat false : List Bool)).bind fun y582 => (if 0 ≤ a1 then (if a1 < (y582.length : Int) then (impl_ancestors.l0 k l0 (y582.set (a1 : Int).toNat true) a1) else (none)) else (none))) else (none)) else (none)) = some r := by (rw [hji3] at H; exact H)
  have hji3w : (IntKind.i64.wrap ((l0.length : Int) + 1)) = ji3 := (i64_w _).trans hji3
  by_cases c4 : 0 ≤ (ji3)
  · rw [if_pos c4] at H
    have c4b0 := eq_true c4
    have c4b1 : decide (0 ≤ (ji3)) = true := decide_eq_true c4
    clear c4
    by_cases c5 : (ji3 : Int).toNat ≤ 281474976710656
    · rw [if_pos c5] at H
      have c5b0 := eq_true c5
      have c5b1 : decide ((ji3 : Int).toNat ≤ 281474976710656) = true := decide_eq_true c5
      clear c5
      obtain ⟨y582, hy582⟩ : ∃ y_ : List Bool, y_ = (List.replicate (ji3 : Int).toNat false) := ⟨_, rfl⟩
      replace H : (if 0 ≤ a1 then (if a1 < (y582.length : Int) then (impl_ancestors.l0 k l0 (y582.set (a1 : Int).toNat true) a1) else (none)) else (none)) = some r := by (have H2_ := (Option.bind_some _ _).symm.trans H; rw [hy582]; with_reducible exact H2_)
      have Ny582 := Aside0.mk hy582
      clear hy582
      by_cases c6 : 0 ≤ a1
      · rw [if_pos c6] at H
        have c6b0 : decide (0 ≤ a1) = true := decide_eq_true c6
        clear c6
        by_cases c7 : a1 < (y582.length : Int)
        · rw [if_pos c7] at H
          have c7b0 : decide (a1 < (y582.length : Int)) = true := decide_eq_true c7
          clear c7
          obtain ⟨y585, hy585⟩ : ∃ y_ : List Bool, y_ = (y582.set (a1 : Int).toNat true) := ⟨_, rfl⟩
          replace H : (impl_ancestors.l0 k l0 y585 a1) = some r := by (rw [hy585]; with_reducible exact H)
          have Ny585 := Aside0.mk hy585
          clear hy585
          have H' := Aside0.mk H
          clear H
          go_enter Tryz.func101, Tryz.ntmps101
          go_wp2_with (first | ((with_reducible refine gate_dst (N := 12) rfl ?_); refine Kd.R_make Kd.bool _ 4 rfl (N := 12) rfl 107 _ _ rfl ji3 rfl rfl Tryz.underlying107 (.bool false) 1 info4 rfl (by decide) (by omega) false (ok := fun _ => True) (okp := fun _ => True) rfl (fun _ hk => hk) trivial (odt) (Nat.le_trans (Nat.mul_le_mul_right _ (odt : ji3.toNat ≤ 281474976710656)) (by omega)) (Below.refl _ _) (Nat.le_refl _) ?_; intro v583 w9 ho10 hb hg_ hnew_; clear hg_ hnew_; (rw [← Ny582.out] at ho10); have n0_ := Aside0.mk (Kd.R_lower ho10 (below_size (w := w) bW)); have n1_ := Aside0.mk (below_step (w := w) bW hb); clear HB; have HO584 := n0_; have HB := n1_; clear n0_ n1_; clear hb ho10; have p8 : 0 ≤ (a1 : Int) := odt; have q8 : (a1 : Int) < ((y582.length : Int) : Int) := odt; obtain ⟨go8, co8, eo8, gb8, gl8, cl8, HG8⟩ := Kd.R_form HO584.out (by omega); (cases eo8); have GB8 := Aside0.mk gb8; have GG8 := Aside0.mk HG8; clear gb8 gl8 HG8; obtain ⟨hx8_0, hf8_0⟩ := Kd.R_celln false HO584.out (a1 : Int) p8 q8; replace p8 := eq_true p8; replace q8 := eq_true q8; obtain ⟨hy11_, hz11_⟩ := Kd.R_celln false HO584.out (a1 : Int) (odt) (odt); have HP11 := Kd.R_putg HO584.out (a1 : Int) true) | ((with_reducible refine gate_store (t := 4) (p := 15) rfl ?_); refine store_event (t := 4) (p := 15) (v := ?vo_w12) (w1 := (w9.setCell ⟨go8, (a1 : Int).toNat, none⟩ (.bool true))) ?hg ?ho ?hn ?hr ?_; (case ho => rfl); (case hg => rfl); (case hn => rfl); (case hr => (go_simp; done)); intro w12 hw; have hg : w9.grownBy w12 (some go8) := (by rw [hw]; exact HP11.2); have hp_ : Kd.R Kd.bool 4 w12 w.heap.size (fun _ => True) (.slice (some ⟨go8, 0, none⟩) y582.length co8) y585 := (by rw [hw, Ny585.out]; exact HP11.1); clear HP11; have n0_ := Aside0.mk (hp_); have n1_ := Aside0.mk ((by rw [hw]; exact below_set (HB.out) GB8.out : Below w.heap.size w w12)); clear HO584; clear HB; have HO584 := n0_; have HB := n1_; clear n0_ n1_; clear hg hw hp_))
          go_loopg [6] k (fun kq v6 w' => ∃ (x5_1 : List Bool) (x6_1 : Int), v6 = .int .i64 x6_1 ∧ Aside0 (impl_ancestors.l0 kq l0 x5_1 x6_1 = some r) ∧ Aside0 (kq ≤ k) ∧ Aside0 (Kd.R Kd.bool 4 w' w.heap.size (fun _ => True) (.slice (some ⟨go8, 0, none⟩) y582.length co8) x5_1) ∧ Aside0 (Below w.heap.size w w'))
          case atStart => exact ⟨(y585), (a1), vE, H', ⟨Nat.le_refl _⟩, ⟨by exact HO584.out⟩, ⟨bW⟩⟩
          case round =>
            clear H'
            try clear c4b0
            try clear c4b1
            try clear c5b0
            try clear c5b1
            try clear c6b0
            try clear c7b0
            try clear p8
            try clear q8
            try clear hx8_0
            obtain ⟨x5_1, x6_1, rfl, HA, HK1, HO_5, HB⟩ := hrel
            have hl5_1 := (Kd.R_reads' HO_5.out).1
            rw [hl5_1] at HO_5
            (try simp only [hl5_1])
            cases gk with
            | zero => exact absurd HA.out (by simp [impl_ancestors.l0])
            | succ k1 =>
              have H := HA.out
              clear HA
              simp only [impl_ancestors.l0] at H
              by_cases c13 : x6_1 > 0
              · rw [if_pos c13] at H
                have c13b0 : decide (0 < x6_1) = true := decide_eq_true c13
                clear c13
                by_cases c14 : 0 ≤ x6_1
                · rw [if_pos c14] at H
                  have c14b0 : decide (0 ≤ x6_1) = true := decide_eq_true c14
                  clear c14
                  by_cases c15 : x6_1 < (x5_1.length : Int)
                  · rw [if_pos c15] at H
                    have c15b0 : decide (x6_1 < (x5_1.length : Int)) = true := decide_eq_true c15
                    clear c15
                    obtain ⟨bq16, hbq16⟩ : ∃ b_ : Bool, b_ = (rdOf false x5_1 x6_1) := ⟨_, rfl⟩
                    replace H : (if bq16 = true then (if 0 ≤ (wrap64 (x6_1 - 1)) then (if (wrap64 (x6_1 - 1)) < (l0.length : Int) then (impl_ancestors.l1 k1 l0 x5_1 x6_1 ((rd_T64 l0 (wrap64 (x6_1 - 1))).f0) (((rd_T64 l0 (wrap64 (x6_1 - 1))).f0).length : Int) 0) else (none)) else (none)) else (impl_ancestors.l0 k1 l0 x5_1 (wrap64 (x6_1 - 1)))) = some r := by rw [← hbq16] at H; exact H
                    have Nbq16 := Aside0.mk hbq16
                    clear hbq16
                    by_cases c17 : bq16 = true
                    · subst c17
                      have H1 : (if 0 ≤ (wrap64 (x6_1 - 1)) then (if (wrap64 (x6_1 - 1)) < (l0.length : Int) then (impl_ancestors.l1 k1 l0 x5_1 x6_1 ((rd_T64 l0 (wrap64 (x6_1 - 1))).f0) (((rd_T64 l0 (wrap64 (x6_1 - 1))).f0).length : Int) 0) else (none)) else (none)) = some r := by rw [if_pos rfl] at H; exact H
                      clear H
                      have H := H1
                      clear H1
                      obtain ⟨ji18, hji18⟩ : ∃ j_ : Int, (wrap64 (x6_1 - 1)) = j_ := ⟨_, rfl⟩
                      replace H : (if 0 ≤ (ji18) then (if (ji18) < (l0.length : Int) then (impl_ancestors.l1 k1 l0 x5_1 x6_1 ((rd_T64 l0 (ji18)).f0) (((rd_T64 l0 (ji18)).f0).length : Int) 0) else (none)) else (none)) = some r := by (rw [hji18] at H; exact H)
                      have hji18w : (IntKind.i64.wrap (x6_1 - 1)) = ji18 := (i64_w _).trans hji18
                      by_cases c19 : 0 ≤ (ji18)
                      · rw [if_pos c19] at H
                        have c19b0 : decide (0 ≤ (ji18)) = true := decide_eq_true c19
                        clear c19
                        by_cases c20 : (ji18) < (l0.length : Int)
                        · rw [if_pos c20] at H
                          have c20b0 : decide ((ji18) < (l0.length : Int)) = true := decide_eq_true c20
                          clear c20
                          have H' := Aside0.mk H
                          clear H
                          have p586 : 0 ≤ (x6_1 : Int) := odt
                          have q586 : x6_1 < (x5_1.length : Int) := odt
                          obtain ⟨ad586, e586, hx586_0⟩ := Kd.at_bool (Kd.R_reads' HO_5.out).2.2 x6_1 p586 q586
                          (try rw [← Nbq16.out] at hx586_0)
                          obtain rfl : (⟨go8, 0, none⟩ : Addr) = ad586 := (by injection e586)
                          (simp only [add_plain] at hx586_0)
                          replace p586 := eq_true p586
                          replace q586 := eq_true q586
                          have p587 : 0 ≤ ((ji18) : Int) := odt
                          have q587 : (ji18) < (l0.length : Int) := odt
                          obtain ⟨ad587, A587_0, c587_0, A587_1, c587_1, e587, hx587_0, hx587_1, hl587_0, hi587_0, hl587_1, hi587_1⟩ := at_T64 HR0.out (ji18) p587 q587
                          cases e587
                          replace hx587_0 := (HB.out.cell (World.block_lt_of_cell? w _ hx587_0)).trans hx587_0
                          replace hx587_1 := (HB.out.cell (World.block_lt_of_cell? w _ hx587_1)).trans hx587_1
                          have HR587_0 := Aside0.mk hi587_0
                          have HC587_0 := Aside0.mk hl587_0
                          clear hi587_0 hl587_0
                          have HR587_1 := Aside0.mk hi587_1
                          have HC587_1 := Aside0.mk hl587_1
                          clear hi587_1 hl587_1
                          replace p587 := eq_true p587
                          replace q587 := eq_true q587
                          go_wp2
                          go_loopg [32] k1 (fun kq v32 w' => ∃ (x5_2 : List Bool) (x32_2 : Int), v32 = .int .i64 x32_2 ∧ Aside0 (impl_ancestors.l1 kq l0 x5_2 x6_1 ((rd_T64 l0 (ji18)).f0) (((rd_T64 l0 (ji18)).f0).length : Int) x32_2 = some r) ∧ Aside0 (kq ≤ k1) ∧ Aside0 (Kd.R Kd.bool 4 w' w.heap.size (fun _ => True) (.slice (some ⟨go8, 0, none⟩) x5_1.length co8) x5_2) ∧ Aside0 (Below w.heap.size w w'))
                          case atStart => exact ⟨(x5_1), (0), vE, H', ⟨Nat.le_refl _⟩, ⟨by exact HO_5.out⟩, ⟨bW⟩⟩
                          case round =>
                            clear H'
                            try clear c13b0
                            try clear c14b0
                            try clear c15b0
                            try clear c19b0
                            try clear c20b0
                            try clear hx586_0
                            try clear hx587_0
                            try clear hx587_1
                            try clear p586
                            try clear p587
                            try clear q586
                            try clear q587
                            obtain ⟨x5_2, x32_2, rfl, HA, HK2, HO_5, HB⟩ := hrel
                            have hl5_2 := (Kd.R_reads' HO_5.out).1
                            rw [hl5_2] at HO_5
                            (try simp only [hl5_2])
                            cases gk with
                            | zero => exact absurd HA.out (by simp [impl_ancestors.l1])
                            | succ k2 =>
                              have H := HA.out
                              clear HA
                              simp only [impl_ancestors.l1] at H
                              by_cases c21 : x32_2 < (((rd_T64 l0 (ji18)).f0).length : Int)
                              · rw [if_pos c21] at H
                                have c21b0 : decide (x32_2 < (((rd_T64 l0 (ji18)).f0).length : Int)) = true := decide_eq_true c21
                                clear c21
                                by_cases c22 : 0 ≤ x32_2
                                · rw [if_pos c22] at H
                                  have c22b0 : decide (0 ≤ x32_2) = true := decide_eq_true c22
                                  clear c22
                                  by_cases c23 : x32_2 < (((rd_T64 l0 (ji18)).f0).length : Int)
                                  · rw [if_pos c23] at H
                                    have c23b0 : decide (x32_2 < (((rd_T64 l0 (ji18)).f0).length : Int)) = true := decide_eq_true c23
                                    clear c23
                                    by_cases c24 : 0 ≤ (rd ((rd_T64 l0 (ji18)).f0) x32_2)
                                    · rw [if_pos c24] at H
                                      have c24b0 : decide (0 ≤ (rd ((rd_T64 l0 (ji18)).f0) x32_2)) = true := decide_eq_true c24
                                      clear c24
                                      by_cases c25 : (rd ((rd_T64 l0 (ji18)).f0) x32_2) < (x5_2.length : Int)
                                      · rw [if_pos c25] at H
                                        have c25b0 : decide ((rd ((rd_T64 l0 (ji18)).f0) x32_2) < (x5_2.length : Int)) = true := decide_eq_true c25
                                        clear c25
                                        obtain ⟨y589, hy589⟩ : ∃ y_ : List Bool, y_ = (x5_2.set ((rd ((rd_T64 l0 (ji18)).f0) x32_2) : Int).toNat true) := ⟨_, rfl⟩
                                        replace H : (impl_ancestors.l1 k2 l0 y589 x6_1 ((rd_T64 l0 (ji18)).f0) (((rd_T64 l0 (ji18)).f0).length : Int) (wrap64 (x32_2 + 1))) = some r := by (rw [hy589]; with_reducible exact H)
                                        have Ny589 := Aside0.mk hy589
                                        clear hy589
                                        have H' := Aside0.mk H
                                        clear H
                                        have p588 : 0 ≤ (x32_2 : Int) := odt
                                        have q588 : x32_2 < (((rd_T64 l0 (ji18)).f0).length : Int) := odt
                                        obtain ⟨ad588, e588, hx588_0⟩ := Kd.at_int HR587_0.out x32_2 p588 q588
                                        cases e588
                                        replace hx588_0 := (HB.out.cell (World.block_lt_of_cell? w _ hx588_0)).trans hx588_0
                                        replace p588 := eq_true p588
                                        replace q588 := eq_true q588
                                        have p26 : 0 ≤ ((rd ((rd_T64 l0 (ji18)).f0) x32_2) : Int) := odt
                                        have q26 : ((rd ((rd_T64 l0 (ji18)).f0) x32_2) : Int) < ((x5_2.length : Int) : Int) := odt
                                        obtain ⟨hx26_0, hf26_0⟩ := Kd.R_celln false HO_5.out ((rd ((rd_T64 l0 (ji18)).f0) x32_2) : Int) p26 q26
                                        replace p26 := eq_true p26
                                        replace q26 := eq_true q26
                                        have HP27 := Kd.R_putg HO_5.out ((rd ((rd_T64 l0 (ji18)).f0) x32_2) : Int) true
                                        go_wp2_with (((with_reducible refine gate_store (t := 4) (p := 38) rfl ?_); refine store_event (t := 4) (p := 38) (v := ?vo_w28) (w1 := (wr.setCell ⟨go8, ((rd ((rd_T64 l0 (ji18)).f0) x32_2) : Int).toNat, none⟩ (.bool true))) ?hg ?ho ?hn ?hr ?_; (case ho => rfl); (case hg => rfl); (case hn => rfl); (case hr => (go_simp; done)); intro w28 hw; have hg : wr.grownBy w28 (some go8) := (by rw [hw]; exact HP27.2); have hp_ : Kd.R Kd.bool 4 w28 w.heap.size (fun _ => True) (.slice (some ⟨go8, 0, none⟩) x5_2.length co8) y589 := (by rw [hw, Ny589.out]; exact HP27.1); clear HP27; have n0_ := Aside0.mk (hp_); have n1_ := Aside0.mk ((by rw [hw]; exact below_set (HB.out) GB8.out : Below w.heap.size w w28)); clear HO_5; clear HB; have HO_5 := n0_; have HB := n1_; clear n0_ n1_; clear hg hw hp_))
                                        (try simp only [← hl5_2])
                                        go_roundg k2
                                        case measure => have := HK1.out; have := HK2.out; omega
                                        case rel => exact ⟨(y589), (wrap64 (x32_2 + 1)), vE, H', ⟨by have := HK1.out; have := HK2.out; omega⟩, ⟨by (try simp only [hl5_2]); exact HO_5.out⟩, ⟨bW⟩⟩
                                      · rw [if_neg c25] at H
                                        exact absurd H (by simp)
                                    · rw [if_neg c24] at H
                                      exact absurd H (by simp)
                                  · rw [if_neg c23] at H
                                    exact absurd H (by simp)
                                · rw [if_neg c22] at H
                                  exact absurd H (by simp)
                              · rw [if_neg c21] at H
                                have c21b0 : decide (x32_2 < (((rd_T64 l0 (ji18)).f0).length : Int)) = false := decide_eq_false c21
                                clear c21
                                have H' := Aside0.mk H
                                clear H
                                go_wp2
                                (try simp only [← hl5_1, ← hl5_2])
                                go_roundg k2
                                case measure => have := HK1.out; have := HK2.out; omega
                                case rel => exact ⟨(x5_2), (wrap64 (x6_1 - 1)), vE, H', ⟨by have := HK1.out; have := HK2.out; omega⟩, ⟨by (try simp only [hl5_1]); (try simp only [hl5_2]); exact HO_5.out⟩, ⟨bW⟩⟩
                        · rw [if_neg c20] at H
                          exact absurd H (by simp)
                      · rw [if_neg c19] at H
                        exact absurd H (by simp)
                    · replace c17 := Bool.eq_false_iff.mpr c17
                      subst c17
                      have H1 : (impl_ancestors.l0 k1 l0 x5_1 (wrap64 (x6_1 - 1))) = some r := by rw [if_neg (show ¬ (false = true) by decide)] at H; exact H
                      clear H
                      have H := H1
                      clear H1
                      have H' := Aside0.mk H
                      clear H
                      have p586 : 0 ≤ (x6_1 : Int) := odt
                      have q586 : x6_1 < (x5_1.length : Int) := odt
                      obtain ⟨ad586, e586, hx586_0⟩ := Kd.at_bool (Kd.R_reads' HO_5.out).2.2 x6_1 p586 q586
                      (try rw [← Nbq16.out] at hx586_0)
                      obtain rfl : (⟨go8, 0, none⟩ : Addr) = ad586 := (by injection e586)
                      (simp only [add_plain] at hx586_0)
                      replace p586 := eq_true p586
                      replace q586 := eq_true q586
                      go_wp2
                      (try simp only [← hl5_1])
                      go_roundg k1
                      case measure => have := HK1.out; omega
                      case rel => exact ⟨(x5_1), (wrap64 (x6_1 - 1)), vE, H', ⟨by have := HK1.out; omega⟩, ⟨by (try simp only [hl5_1]); exact HO_5.out⟩, ⟨bW⟩⟩
                  · rw [if_neg c15] at H
                    exact absurd H (by simp)
                · rw [if_neg c14] at H
                  exact absurd H (by simp)
              · rw [if_neg c13] at H
                have c13b0 : decide (0 < x6_1) = false := decide_eq_false c13
                clear c13
                obtain rfl := Option.some.inj H
                go_wp2
                go_ret
                exact ⟨_, by rfl, by exact HO_5.out, bW⟩
        · rw [if_neg c7] at H
          exact absurd H (by simp)
      · rw [if_neg c6] at H
        exact absurd H (by simp)
    · rw [if_neg c5] at H
      exact absurd H (by simp)
  · rw [if_neg c4] at H
    exact absurd H (by simp)
end Go.Proofs.YtblejbgkcgajgaaGreat.Q
end

section
namespace Go.Proofs.YtblejbgkcgajgaaGreat.Q
open Go.RowKit Go.Proofs.YtblejbgkcgajgaaGreatW.PrintWords Go.Proofs.YtblejbgkcgajgaaGreatW.PrintLast Go.Proofs.YtblejbgkcgajgaaGreatW.PrintMore
attribute [local go_sem] max2_int min2_int max_two min_two max_three min_three max_four min_four   -- for this text's walks alone
set_option linter.unusedVariables false
set_option linter.unusedSimpArgs false
attribute [local go_sem] bin_leq bin_gtr bin_geq
def impl_baseOf.l0 : Nat → List Bool → List Bool → Int → Option (Int)
  | 0, _, _, _ => none
  | k + 1, x7, x8, x9 => if 0 ≤ x9 then (if x9 < (x7.length : Int) then (if rdOf false x7 x9 = true then (if x9 < (x8.length : Int) then (if rdOf false x8 x9 = true then (some x9) else (impl_baseOf.l0 k x7 x8 (wrap64 (x9 - 1)))) else (none)) else (impl_baseOf.l0 k x7 x8 (wrap64 (x9 - 1)))) else (none)) else (none)
def impl_baseOf.f (k : Nat) (l0 : List (S64)) (a1 : Int) (a2 : Int) : Option (Int) := (impl_ancestors.f k l0 a1).bind fun t590 => ((impl_ancestors.f k l0 a2).bind fun t593 => (impl_baseOf.l0 k t590 t593 (mn a1 a2)))
set_option maxHeartbeats 8000000 in
set_option maxRecDepth 100000 in
theorem impl_baseOf.calls (k : Nat) (A0 : Option Addr) (c0 : Nat) (l0 : List (S64)) (a1 : Int) (a2 : Int) (r : Int) (w : World) (hr0 : Kd.C k64 w A0 l0.length l0) (hc0 : l0.length ≤ c0) (h : impl_baseOf.f k l0 a1 a2 = some r) :
    Calls Tryz.prog 75 #[.slice A0 l0.length c0, .int .i64 a1, .int .i64 a2] w fun e w' => e = .returned (.int .i64 r) ∧ Below w.heap.size w w' := by
  have HR0 := Aside0.mk hr0
  have HC0 := Aside0.mk hc0
  clear hr0 hc0
  have HB := Aside0.mk (Below.refl w.heap.size w)
  have H : ((impl_ancestors.f k l0 a1).bind fun t590 => ((impl_ancestors.f k l0 a2).bind fun t593 => (impl_baseOf.l0 k t590 t593 (mn a1 a2)))) = some r := h
  clear h
  replace H := Option.bind_eq_some_iff.mp H
  obtain ⟨t590, A40, H⟩ := H
  replace H : ((impl_ancestors.f k l0 a2).bind fun t593 => (impl_baseOf.l0 k t590 t593 (mn a1 a2))) = some r := H
  have A4 := Aside0.mk A40
  clear A40
  replace H := Option.bind_eq_some_iff.mp H
  obtain ⟨t593, A50, H⟩ := H
  replace H : (impl_baseOf.l0 k t590 t593 (mn a1 a2)) = some r := H
  have A5 := Aside0.mk A50
  clear A50
  obtain ⟨ji6, hji6⟩ : ∃ j_ : Int, (mn a1 a2) = j_ := ⟨_, rfl⟩
  replace H : (impl_baseOf.l0 k t590 t593 ji6) = some r := by (rw [hji6] at H; exact H)
  have hji6_ : (if a2 < a1 then a2 else a1) = ji6 := hji6
  have H' := Aside0.mk H
  clear H
  go_enter Tryz.func75, Tryz.ntmps75
  go_wp2_with (first | ((with_reducible refine gate_callee (f := 101) rfl ?_); refine goesL_ (some 12) rfl rfl Tryz.func101 (by kernel_rfl) rfl #[.slice A0 l0.length c0, .int .i64 a1] rfl gA ?_; (with_reducible refine (impl_ancestors.calls k _ _ l0 a1 t590 _ ?side1 ?side2 A4.out).mono ?_); (case side1 => exact cN HR0); (case side2 => exact HC0.out); rintro e w7 ⟨v591, rfl, ho0, hb⟩; refine ⟨_, rfl, ?_⟩; have n0_ := Aside0.mk (Kd.R_lower ho0 (below_size (w := w) bW)); have n1_ := Aside0.mk (below_step (w := w) bW hb); clear HB; have HO592 := n0_; have HB := n1_; clear n0_ n1_; (try clear hb); (try clear ho0)) | ((with_reducible refine gate_callee (f := 101) rfl ?_); refine goesL_ (some 15) rfl rfl Tryz.func101 (by kernel_rfl) rfl #[.slice A0 l0.length c0, .int .i64 a2] rfl gA ?_; (with_reducible refine (impl_ancestors.calls k _ _ l0 a2 t593 _ ?side1 ?side2 A5.out).mono ?_); (case side1 => exact cB HR0); (case side2 => exact HC0.out); rintro e w8 ⟨v594, rfl, ho0, hb⟩; refine ⟨_, rfl, ?_⟩; have n0_ := Aside0.mk (Kd.R_elder' (pR HO592) (Kd.R_base ho0) hb); have n1_ := Aside0.mk (Kd.R_lower (Kd.R_new' ho0 (Kd.R_lt (pR HO592))) (below_size (w := w) bW)); have n2_ := Aside0.mk (below_step (w := w) bW hb); clear HO592; clear HB; have HO592 := n0_; have HO595 := n1_; have HB := n2_; clear n0_ n1_ n2_; (try clear hb); (try clear ho0)))
  go_loopg [9] k (fun kq v9 w' => ∃ (x9_1 : Int), v9 = .int .i64 x9_1 ∧ Aside0 (impl_baseOf.l0 kq t590 t593 x9_1 = some r) ∧ Aside0 (kq ≤ k) ∧ Aside0 (Kd.R Kd.bool 4 w' w.heap.size (fun k_ => some k_ ≠ (v594 : Value).ownBlock) v591 t590) ∧ Aside0 (Kd.R Kd.bool 4 w' w.heap.size (fun k_ => some k_ ≠ (v591 : Value).ownBlock) v594 t593) ∧ Aside0 (Below w.heap.size w w'))
  case atStart => exact ⟨(ji6), (by rfl), H', ⟨Nat.le_refl _⟩, ⟨by exact Kd.R_mono HO592.out (fun _ hk => hk.2)⟩, ⟨by exact Kd.R_mono HO595.out (fun _ hk => hk.2)⟩, ⟨bW⟩⟩
  case round =>
    clear H'
    obtain ⟨x9_1, rfl, HA, HK1, HO_7, HO_8, HB⟩ := hrel
    cases gk with
    | zero => exact absurd HA.out (by simp [impl_baseOf.l0])
    | succ k1 =>
      have H := HA.out
      clear HA
      simp only [impl_baseOf.l0] at H
      by_cases c9 : 0 ≤ x9_1
      · rw [if_pos c9] at H
        have c9b0 : decide (0 ≤ x9_1) = true := decide_eq_true c9
        clear c9
        by_cases c10 : x9_1 < (t590.length : Int)
        · rw [if_pos c10] at H
          have c10b0 : decide (x9_1 < (t590.length : Int)) = true := decide_eq_true c10
          clear c10
          obtain ⟨bq11, hbq11⟩ : ∃ b_ : Bool, b_ = (rdOf false t590 x9_1) := ⟨_, rfl⟩
          replace H : (if bq11 = true then (if x9_1 < (t593.length : Int) then (if rdOf false t593 x9_1 = true then (some x9_1) else (impl_baseOf.l0 k1 t590 t593 (wrap64 (x9_1 - 1)))) else (none)) else (impl_baseOf.l0 k1 t590 t593 (wrap64 (x9_1 - 1)))) = some r := by rw [← hbq11] at H; exact H
          have Nbq11 := Aside0.mk hbq11
          clear hbq11
          by_cases c12 : bq11 = true
          · subst c12
            have H1 : (if x9_1 < (t593.length : Int) then (if rdOf false t593 x9_1 = true then (some x9_1) else (impl_baseOf.l0 k1 t590 t593 (wrap64 (x9_1 - 1)))) else (none)) = some r := by rw [if_pos rfl] at H; exact H
            clear H
            have H := H1
            clear H1
            by_cases c13 : x9_1 < (t593.length : Int)
            · rw [if_pos c13] at H
              have c13b0 : decide (x9_1 < (t593.length : Int)) = true := decide_eq_true c13
              clear c13
              obtain ⟨bq14, hbq14⟩ : ∃ b_ : Bool, b_ = (rdOf false t593 x9_1) := ⟨_, rfl⟩
              replace H : (if bq14 = true then (some x9_1) else (impl_baseOf.l0 k1 t590 t593 (wrap64 (x9_1 - 1)))) = some r := by rw [← hbq14] at H; exact H
              have Nbq14 := Aside0.mk hbq14
              clear hbq14
              by_cases c15 : bq14 = true
              · subst c15
                have H1 : (some x9_1) = some r := by rw [if_pos rfl] at H; exact H
                clear H
                have H := H1
                clear H1
                obtain rfl := Option.some.inj H
                obtain ⟨Ao16, co16, eo16⟩ := Kd.R_slice HO_7.out
                subst eo16
                have p596 : 0 ≤ (x9_1 : Int) := odt
                have q596 : x9_1 < (t590.length : Int) := odt
                obtain ⟨ad596, e596, hx596_0⟩ := Kd.at_bool (Kd.R_reads' HO_7.out).2.2 x9_1 p596 q596
                (try rw [← Nbq11.out] at hx596_0)
                cases e596
                replace p596 := eq_true p596
                replace q596 := eq_true q596
                obtain ⟨Ao17, co17, eo17⟩ := Kd.R_slice HO_8.out
                subst eo17
                have p597 : 0 ≤ (x9_1 : Int) := odt
                have q597 : x9_1 < (t593.length : Int) := odt
                obtain ⟨ad597, e597, hx597_0⟩ := Kd.at_bool (Kd.R_reads' HO_8.out).2.2 x9_1 p597 q597
                (try rw [← Nbq14.out] at hx597_0)
                cases e597
                replace p597 := eq_true p597
                replace q597 := eq_true q597
                go_wp2
                go_ret
                exact ⟨by rfl, bW⟩
              · replace c15 := Bool.eq_false_iff.mpr c15
                subst c15
                have H1 : (impl_baseOf.l0 k1 t590 t593 (wrap64 (x9_1 - 1))) = some r := by rw [if_neg (show ¬ (false = true) by decide)] at H; exact H
                clear H
                have H := H1
                clear H1
                have H' := Aside0.mk H
                clear H
                obtain ⟨Ao18, co18, eo18⟩ := Kd.R_slice HO_7.out
                subst eo18
                have p596 : 0 ≤ (x9_1 : Int) := odt
                have q596 : x9_1 < (t590.length : Int) := odt
                obtain ⟨ad596, e596, hx596_0⟩ := Kd.at_bool (Kd.R_reads' HO_7.out).2.2 x9_1 p596 q596
                (try rw [← Nbq11.out] at hx596_0)
                cases e596
                replace p596 := eq_true p596
                replace q596 := eq_true q596
                obtain ⟨Ao19, co19, eo19⟩ := Kd.R_slice HO_8.out
                subst eo19
                have p597 : 0 ≤ (x9_1 : Int) := odt
                have q597 : x9_1 < (t593.length : Int) := odt
                obtain ⟨ad597, e597, hx597_0⟩ := Kd.at_bool (Kd.R_reads' HO_8.out).2.2 x9_1 p597 q597
                (try rw [← Nbq14.out] at hx597_0)
                cases e597
                replace p597 := eq_true p597
                replace q597 := eq_true q597
                go_wp2
                go_roundg k1
                case measure => have := HK1.out; omega
                case rel => exact ⟨(wrap64 (x9_1 - 1)), vE, H', ⟨by have := HK1.out; omega⟩, ⟨by exact HO_7.out⟩, ⟨by exact HO_8.out⟩, ⟨bW⟩⟩
            · rw [if_neg c13] at H
              exact absurd H (by simp)
          · replace c12 := Bool.eq_false_iff.mpr c12
            subst c12
            have H1 : (impl_baseOf.l0 k1 t590 t593 (wrap64 (x9_1 - 1))) = some r := by rw [if_neg (show ¬ (false = true) by decide)] at H; exact H
            clear H
            have H := H1
            clear H1
            have H' := Aside0.mk H
            clear H
            obtain ⟨Ao20, co20, eo20⟩ := Kd.R_slice HO_7.out
            subst eo20
            have p596 : 0 ≤ (x9_1 : Int) := odt
            have q596 : x9_1 < (t590.length : Int) := odt
            obtain ⟨ad596, e596, hx596_0⟩ := Kd.at_bool (Kd.R_reads' HO_7.out).2.2 x9_1 p596 q596
            (try rw [← Nbq11.out] at hx596_0)
            cases e596
            replace p596 := eq_true p596
            replace q596 := eq_true q596
            go_wp2
            go_roundg k1
            case measure => have := HK1.out; omega
            case rel => exact ⟨(wrap64 (x9_1 - 1)), vE, H', ⟨by have := HK1.out; omega⟩, ⟨by exact HO_7.out⟩, ⟨by exact HO_8.out⟩, ⟨bW⟩⟩
        · rw [if_neg c10] at H
          exact absurd H (by simp)
      · rw [if_neg c9] at H
        exact absurd H (by simp)
end Go.Proofs.YtblejbgkcgajgaaGreat.Q
end

section
namespace Go.Proofs.YtblejbgkcgajgaaGreat.Q
open Go.RowKit Go.Proofs.YtblejbgkcgajgaaGreatW.PrintWords Go.Proofs.YtblejbgkcgajgaaGreatW.PrintLast Go.Proofs.YtblejbgkcgajgaaGreatW.PrintMore
attribute [local go_sem] max2_int min2_int max_two min_two max_three min_three max_four min_four   -- for this text's walks alone
set_option linter.unusedVariables false
set_option linter.unusedSimpArgs false
attribute [local go_sem] bin_leq bin_gtr bin_geq
theorem cmp_lt : ∀ (a b : List UInt8), (Lib.compareBytes a b < 0) ↔ Op.bytesLess a b = true
  | [], [] => by simp [Lib.compareBytes, Op.bytesLess]
  | [], _ :: _ => by simp [Lib.compareBytes, Op.bytesLess]
  | _ :: _, [] => by simp [Lib.compareBytes, Op.bytesLess]
  | a :: ra, b :: rb => by
    have ih := cmp_lt ra rb
    unfold Lib.compareBytes
    by_cases h1 : a < b
    · simp [h1, Op.bytesLess]
    · by_cases h2 : b < a
      · have h3 : ¬ a = b := by rintro rfl; exact h1 h2
        simp [h1, h2, h3, Op.bytesLess]
      · have h3 : a = b := UInt8.le_antisymm (UInt8.not_lt.mp h2) (UInt8.not_lt.mp h1)
        subst h3
        simp [h1, Op.bytesLess, ih]
theorem cmp_eq : ∀ (a b : List UInt8), (Lib.compareBytes a b = 0) ↔ a = b
  | [], [] => by simp [Lib.compareBytes]
  | [], _ :: _ => by simp [Lib.compareBytes]
  | _ :: _, [] => by simp [Lib.compareBytes]
  | a :: ra, b :: rb => by
    have ih := cmp_eq ra rb
    unfold Lib.compareBytes
    by_cases h1 : a < b
    · have h3 : ¬ a = b := by rintro rfl; exact absurd h1 (UInt8.lt_irrefl _)
      simp [h1, h3]
    · by_cases h2 : b < a
      · have h3 : ¬ a = b := by rintro rfl; exact h1 h2
        simp [h1, h2, h3]
      · have h3 : a = b := UInt8.le_antisymm (UInt8.not_lt.mp h2) (UInt8.not_lt.mp h1)
        subst h3
        simp [h1, ih]
def cmpB (a b : ByteArray) : Int := Lib.compareBytes a.data.toList b.data.toList
end Go.Proofs.YtblejbgkcgajgaaGreat.Q
end

section
namespace Go.Proofs.YtblejbgkcgajgaaGreat.Q
open Go.RowKit Go.Proofs.YtblejbgkcgajgaaGreatW.PrintWords Go.Proofs.YtblejbgkcgajgaaGreatW.PrintLast Go.Proofs.YtblejbgkcgajgaaGreatW.PrintMore
attribute [local go_sem] max2_int min2_int max_two min_two max_three min_three max_four min_four   -- for this text's walks alone
set_option linter.unusedVariables false
set_option linter.unusedSimpArgs false
attribute [local go_sem] bin_leq bin_gtr bin_geq
def bytealg_CompareString.f (a0 : ByteArray) (a1 : ByteArray) : Option (Int) := some (cmpB a0 a1)
set_option maxHeartbeats 1000000 in
set_option maxRecDepth 100000 in
theorem bytealg_CompareString.calls (a0 : ByteArray) (a1 : ByteArray) (r : Int) (w : World) (h : bytealg_CompareString.f a0 a1 = some r) :
    Calls Tryz.prog 93 #[.string a0, .string a1] w fun e w' => e = .returned (.int .i64 r) ∧ Drawn0 w w' := by
  obtain rfl := Option.some.inj h
  clear h
  go_enter Tryz.func93, Tryz.ntmps93
  go_wp2
  rw [run_callFunc_extern Tryz.func121 (by kernel_rfl) (by kernel_rfl) (by kernel_rfl) (e := Extern.BytealgCompare.compare) (by kernel_rfl), Lib.run_compareString]
  simp only [Result.andThen]
  rw [Oper.upon_value]
  go_wp2
  go_ret
  exact ⟨rfl, Drawn0.refl _⟩
end Go.Proofs.YtblejbgkcgajgaaGreat.Q
end

section
namespace Go.Proofs.YtblejbgkcgajgaaGreat.Q
open Go.RowKit Go.Proofs.YtblejbgkcgajgaaGreatW.PrintWords Go.Proofs.YtblejbgkcgajgaaGreatW.PrintLast Go.Proofs.YtblejbgkcgajgaaGreatW.PrintMore
attribute [local go_sem] max2_int min2_int max_two min_two max_three min_three max_four min_four   -- for this text's walks alone
set_option linter.unusedVariables false
set_option linter.unusedSimpArgs false
attribute [local go_sem] bin_leq bin_gtr bin_geq
def strings_Compare.f (a0 : ByteArray) (a1 : ByteArray) : Option (Int) := (bytealg_CompareString.f a0 a1).bind fun t290 => (some t290)
set_option maxHeartbeats 8000000 in
set_option maxRecDepth 100000 in
theorem strings_Compare.calls (a0 : ByteArray) (a1 : ByteArray) (r : Int) (w : World) (h : strings_Compare.f a0 a1 = some r) :
    Calls Tryz.prog 62 #[.string a0, .string a1] w fun e w' => e = .returned (.int .i64 r) ∧ Drawn0 w w' := by
  have H : ((bytealg_CompareString.f a0 a1).bind fun t290 => (some t290)) = some r := h
  clear h
  replace H := Option.bind_eq_some_iff.mp H
  obtain ⟨t290, A30, H⟩ := H
  replace H : (some t290) = some r := H
  have A3 := Aside0.mk A30
  clear A30
  obtain rfl := Option.some.inj H
  go_enter Tryz.func62, Tryz.ntmps62
  go_wp2_with (first | ((with_reducible refine gate_callee (f := 93) rfl ?_); refine goesL_ (some 7) rfl rfl Tryz.func93 (by kernel_rfl) rfl #[.string a0, .string a1] rfl gA ?_; (with_reducible refine (bytealg_CompareString.calls a0 a1 t290 _ A3.out).mono ?_); rintro e w' ⟨rfl, ⟨nd, rfl⟩⟩; refine ⟨_, rfl, ?_⟩))
  go_ret
  exact ⟨by first | rfl | (simp; done) | (simp [*]; done), by repeat (first | exact Drawn0.refl _ | apply Drawn0.step)⟩
end Go.Proofs.YtblejbgkcgajgaaGreat.Q
end

section
namespace Go.Proofs.YtblejbgkcgajgaaGreat.Q
open Go.RowKit Go.Proofs.YtblejbgkcgajgaaGreatW.PrintWords Go.Proofs.YtblejbgkcgajgaaGreatW.PrintLast Go.Proofs.YtblejbgkcgajgaaGreatW.PrintMore
attribute [local go_sem] max2_int min2_int max_two min_two max_three min_three max_four min_four   -- for this text's walks alone
set_option linter.unusedVariables false
set_option linter.unusedSimpArgs false
attribute [local go_sem] bin_leq bin_gtr bin_geq
def Cmps_Entry (g : Nat) (lb : Array Value) (tv : Value) (c : S84 → Int) (w : World) (l : List S84) : Prop :=
  ∀ (W : World) (x : S84), Below w.heap.size w W → x ∈ l → Calls Tryz.prog g (#[.agg #[.string x.f0, .int .i64 x.f1], tv] ++ lb) W fun e w' => e = .returned (.int .i64 (c x)) ∧ Below W.heap.size W w'
def cntN (c : S84 → Int) (l : List S84) : Nat := l.countP (fun x => decide (c x < 0))
def fndB (c : S84 → Int) (l : List S84) : Bool := match l[cntN c l]? with | some x => c x == 0 | none => false
theorem cntN_is {c : S84 → Int} : ∀ (l : List S84) (i : Nat), i ≤ l.length → (∀ t (ht : t < l.length), t < i → c l[t] < 0) → (∀ t (ht : t < l.length), i ≤ t → 0 ≤ c l[t]) → cntN c l = i
  | [], i, hi, _, _ => by
    have : i = 0 := by simpa using hi
    rw [this]; rfl
  | a :: r, 0, _, _, h2 => by
    unfold cntN
    rw [List.countP_eq_zero]
    intro x hx
    obtain ⟨t, ht, rfl⟩ := List.getElem_of_mem hx
    have := h2 t ht (Nat.zero_le _)
    simp; omega
  | a :: r, i + 1, hi, h1, h2 => by
    have ha : decide (c a < 0) = true := decide_eq_true (h1 0 (by simp) (by omega))
    have ih := cntN_is r i (by simpa using hi) (fun t ht h => h1 (t + 1) (by simp; omega) (by omega)) (fun t ht h => h2 (t + 1) (by simp; omega) (by omega))
    unfold cntN at ih ⊢
    rw [List.countP_cons_of_pos (p := fun x => decide (c x < 0)) ha, ih]
set_option maxHeartbeats 4000000 in
set_option maxRecDepth 1000000 in
theorem bsF_Entry (g : Nat) (lb : Array Value) (eg : ∀ args w, (callFunc g args).run Tryz.prog w = .ok (.enter g args) w) (tv : Value) (c : S84 → Int) (A0 : Option Addr) (c0 : Nat) (l0 : List S84) (w : World) (hr0 : Kd.C k84 w A0 l0.length l0) (hc0 : l0.length ≤ c0) (hp : Cmps_Entry g lb tv c w l0)
    (hsz : l0.length < 4611686018427387904) (hmono : ∀ a b (hb : b < l0.length) (hab : a ≤ b), c l0[b] < 0 → c (l0[a]'(by omega)) < 0) :
    Calls Tryz.prog 89 #[.slice A0 l0.length c0, tv, .func (.func g) #[] lb] w fun e w' => e = .returned (.tuple #[.int .i64 (cntN c l0 : Nat), .bool (fndB c l0)]) ∧ Below w.heap.size w w' := by
  have HR0 := Aside0.mk hr0
  have HP := Aside0.mk hp
  have M := Aside0.mk hmono
  clear hr0 hc0 hp hmono
  go_enter Tryz.func89, Tryz.ntmps89
  go_wp2
  go_loopg [9, 10] l0.length (fun kx s9 s10 w' => ∃ lo hi : Nat, s9 = .int .i64 lo ∧ s10 = .int .i64 hi ∧ lo ≤ hi ∧ hi ≤ l0.length ∧ hi - lo ≤ kx ∧ Aside0 (Below w.heap.size w w') ∧
    Aside0 ((∀ t (ht : t < l0.length), t < lo → c l0[t] < 0) ∧ (∀ t (ht : t < l0.length), hi ≤ t → 0 ≤ c l0[t])))
  case atStart => exact ⟨0, l0.length, rfl, rfl, Nat.zero_le _, Nat.le_refl _, by omega, ⟨Below.refl _ _⟩, ⟨⟨fun t ht h => absurd h (Nat.not_lt_zero _), fun t ht h => by omega⟩⟩⟩
  case round =>
    obtain ⟨lo, hi, rfl, rfl, hlh, hin, hg, HB, I⟩ := hrel
    by_cases hlt : lo < hi
    · have HRW := Aside0.mk (Kd.C_below HR0.out HB.out)
      have hm : (lo + hi) / 2 < l0.length := by omega
      have p0 : (0 : Int) ≤ ((lo : Int) + (hi : Int)) / 2 := by omega
      have p1 : ((lo : Int) + (hi : Int)) / 2 < (l0.length : Int) := by omega
      have em : (((lo : Int) + (hi : Int)) / 2).toNat = (lo + hi) / 2 := by omega
      obtain ⟨ad, e1, hx0, hx1⟩ := at_T84 HRW.out (((lo : Int) + (hi : Int)) / 2) p0 p1
      cases e1
      have ex : rd_T84 l0 (((lo : Int) + (hi : Int)) / 2) = l0[(lo + hi) / 2] := by unfold rd_T84; rw [em]; simp [List.getD_eq_getElem?_getD, List.getElem?_eq_getElem hm]
      rw [ex, em] at hx0 hx1
      have hcall := HP.out _ l0[(lo + hi) / 2] HB.out (List.getElem_mem hm)
      obtain ⟨y, hy⟩ : ∃ y, y = l0[(lo + hi) / 2] := ⟨_, rfl⟩
      rw [← hy] at hx0 hx1 hcall
      have HY := Aside0.mk hy
      clear hy ex em
      have HC := Aside0.mk hcall
      clear hcall
      by_cases hyx : c y < 0
      · go_wp2_with ((with_reducible refine HC.out.mono ?_); rintro e w' ⟨rfl, hb'⟩)
        go_roundg (hi - ((lo + hi) / 2 + 1))
        case measure => omega
        case rel =>
          refine ⟨(lo + hi) / 2 + 1, hi, by go_num, rfl, by omega, hin, Nat.le_refl _, ⟨below_then HB.out HB.out.size hb'⟩, ⟨⟨fun t ht h => ?_, I.out.2⟩⟩⟩
          exact M.out t ((lo + hi) / 2) hm (by omega) (by rw [← HY.out]; exact hyx)
      · have hyx' : 0 ≤ c y := by omega
        go_wp2_with ((with_reducible refine HC.out.mono ?_); rintro e w' ⟨rfl, hb'⟩)
        go_roundg ((lo + hi) / 2 - lo)
        case measure => omega
        case rel =>
          refine ⟨lo, (lo + hi) / 2, rfl, by go_num, by omega, by omega, Nat.le_refl _, ⟨below_then HB.out HB.out.size hb'⟩, ⟨⟨I.out.1, fun t ht h => ?_⟩⟩⟩
          rcases Int.lt_or_le (c l0[t]) 0 with h3 | h3
          · have := M.out ((lo + hi) / 2) t ht h h3
            rw [← HY.out] at this
            omega
          · exact h3
    · obtain rfl : lo = hi := by omega
      have CN := Aside0.mk (cntN_is l0 lo hin I.out.1 I.out.2)
      by_cases hlen : lo < l0.length
      · have HRW := Aside0.mk (Kd.C_below HR0.out HB.out)
        have p1 : (lo : Int) < (l0.length : Int) := by omega
        have p0 : (0 : Int) ≤ (lo : Int) := by omega
        obtain ⟨ad, e1, hx0, hx1⟩ := at_T84 HRW.out (lo : Int) p0 p1
        cases e1
        have ex : rd_T84 l0 (lo : Int) = l0[lo] := by simp [rd_T84, List.getD_eq_getElem?_getD, List.getElem?_eq_getElem hlen]
        rw [ex] at hx0 hx1
        simp only [Int.toNat_natCast] at hx0 hx1
        have hcall := HP.out _ l0[lo] HB.out (List.getElem_mem hlen)
        have FN := Aside0.mk (show fndB c l0 = (c l0[lo] == 0) by unfold fndB; rw [CN.out, List.getElem?_eq_getElem hlen])
        obtain ⟨y, hy⟩ : ∃ y, y = l0[lo] := ⟨_, rfl⟩
        rw [← hy] at hx0 hx1 hcall
        have FN2 := Aside0.mk (show fndB c l0 = (c y == 0) by rw [FN.out, hy])
        clear hy ex FN
        have HC := Aside0.mk hcall
        clear hcall
        go_wp2_with ((with_reducible refine HC.out.mono ?_); rintro e w' ⟨rfl, hb'⟩)
        go_ret2
        exact ⟨by rw [CN.out, FN2.out]; rfl, below_then HB.out HB.out.size hb'⟩
      · obtain rfl : lo = l0.length := by omega
        have FN := Aside0.mk (show fndB c l0 = false by unfold fndB; rw [CN.out, List.getElem?_eq_none (Nat.le_refl _)])
        go_wp2
        go_ret2
        exact ⟨by rw [CN.out, FN.out]; rfl, HB.out⟩
end Go.Proofs.YtblejbgkcgajgaaGreat.Q
end

section
namespace Go.Proofs.YtblejbgkcgajgaaGreat.Q
open Go.RowKit Go.Proofs.YtblejbgkcgajgaaGreatW.PrintWords Go.Proofs.YtblejbgkcgajgaaGreatW.PrintLast Go.Proofs.YtblejbgkcgajgaaGreatW.PrintMore
attribute [local go_sem] max2_int min2_int max_two min_two max_three min_three max_four min_four   -- for this text's walks alone
set_option linter.unusedVariables false
set_option linter.unusedSimpArgs false
attribute [local go_sem] bin_leq bin_gtr bin_geq
def RiseP (l : List S84) : Prop := l.Pairwise (fun a b => sblt a.f0 b.f0 = true)
instance (l : List S84) : Decidable (RiseP l) := by unfold RiseP; infer_instance
def cmpK (k : ByteArray) (x : S84) : Int := cmpB x.f0 k
theorem cmpK_lt (k : ByteArray) (x : S84) : cmpK k x < 0 ↔ sblt x.f0 k = true := by
  unfold cmpK cmpB sblt
  rw [cmp_lt, ByteArray.toList_eq, ByteArray.toList_eq]
theorem cmpK_mono {l : List S84} (h : RiseP l) (k : ByteArray) : ∀ a b (hb : b < l.length) (hab : a ≤ b), cmpK k l[b] < 0 → cmpK k (l[a]'(by omega)) < 0 := by
  intro a b hb hab h1
  rw [cmpK_lt] at h1 ⊢
  rcases Nat.lt_or_eq_of_le hab with h2 | h2
  · exact sblt_trans (List.pairwise_iff_getElem.mp h a b (by omega) hb h2) h1
  · subst h2; exact h1
end Go.Proofs.YtblejbgkcgajgaaGreat.Q
end

section
namespace Go.Proofs.YtblejbgkcgajgaaGreat.Q
open Go.RowKit Go.Proofs.YtblejbgkcgajgaaGreatW.PrintWords Go.Proofs.YtblejbgkcgajgaaGreatW.PrintLast Go.Proofs.YtblejbgkcgajgaaGreatW.PrintMore
attribute [local go_sem] max2_int min2_int max_two min_two max_three min_three max_four min_four   -- for this text's walks alone
set_option linter.unusedVariables false
set_option linter.unusedSimpArgs false
attribute [local go_sem] bin_leq bin_gtr bin_geq
def bs_find.f (l0 : List (S84)) (a1 : ByteArray) : Option (Int × Bool) := if RiseP l0 then (if l0.length < 4611686018427387904 then some ((cntN (cmpK a1) l0 : Nat), fndB (cmpK a1) l0) else none) else none
theorem find_asks (k : ByteArray) (l : List S84) (w : World) : Cmps_Entry 90 #[] (.string k) (cmpK k) w l := by
  intro W x hW hx
  have HBA := Aside0.mk (show Below W.heap.size W (W.alloc (.cells #[.string x.f0, .int .i64 x.f1] 84)) from (Below.refl _ _).alloc (Nat.le_refl _) _)
  have A2 := Aside0.mk (show strings_Compare.f x.f0 k = some (cmpK k x) from rfl)
  clear hx hW
  go_enter Tryz.func90, Tryz.ntmps90
  go_wp2_with (go_at_call 62; (with_reducible refine (strings_Compare.calls _ _ _ _ A2.out).mono ?_); rintro e w' ⟨rfl, ⟨n, rfl⟩⟩)
  go_ret
  exact ⟨rfl, by repeat (first | exact HBA.out | apply pw_below_drewN)⟩
theorem bs_find.calls (A0 : Option Addr) (c0 : Nat) (l0 : List (S84)) (a1 : ByteArray) (r1 : Int) (r2 : Bool) (w : World) (hr0 : Kd.C k84 w A0 l0.length l0) (hc0 : l0.length ≤ c0) (h : bs_find.f l0 a1 = some (r1, r2)) :
    Calls Tryz.prog 89 #[.slice A0 l0.length c0, .string a1, .func (.func 90) #[] #[]] w fun e w' => e = .returned (.tuple #[.int .i64 r1, .bool r2]) ∧ Below w.heap.size w w' := by
  unfold bs_find.f at h
  by_cases h0 : RiseP l0
  · rw [if_pos h0] at h
    by_cases h1 : l0.length < 4611686018427387904
    · rw [if_pos h1] at h
      have e := Option.some.inj h
      obtain rfl : _ = r1 := congrArg Prod.fst e
      obtain rfl : _ = r2 := congrArg Prod.snd e
      exact bsF_Entry 90 #[] (enters_ Tryz.func90 (by kernel_rfl) rfl) (.string a1) (cmpK a1) A0 c0 l0 w hr0 hc0 (find_asks a1 l0 w) h1 (cmpK_mono h0 a1)
    · rw [if_neg h1] at h
      cases h
  · rw [if_neg h0] at h
    cases h
end Go.Proofs.YtblejbgkcgajgaaGreat.Q
end

section
namespace Go.Proofs.YtblejbgkcgajgaaGreat.Q
open Go.RowKit Go.Proofs.YtblejbgkcgajgaaGreatW.PrintWords Go.Proofs.YtblejbgkcgajgaaGreatW.PrintLast Go.Proofs.YtblejbgkcgajgaaGreatW.PrintMore
attribute [local go_sem] max2_int min2_int max_two min_two max_three min_three max_four min_four   -- for this text's walks alone
set_option linter.unusedVariables false
set_option linter.unusedSimpArgs false
attribute [local go_sem] bin_leq bin_gtr bin_geq
def impl_find.f (l0 : List (S84)) (a1 : ByteArray) : Option (Int × Bool) := (bs_find.f l0 a1).bind fun bt291 => (some (bt291.1, bt291.2))
set_option maxHeartbeats 8000000 in
set_option maxRecDepth 100000 in
theorem impl_find.calls (A0 : Option Addr) (c0 : Nat) (l0 : List (S84)) (a1 : ByteArray) (r1 : Int) (r2 : Bool) (w : World) (hr0 : Kd.C k84 w A0 l0.length l0) (hc0 : l0.length ≤ c0) (h : impl_find.f l0 a1 = some (r1, r2)) :
    Calls Tryz.prog 59 #[.slice A0 l0.length c0, .string a1] w fun e w' => e = .returned (.tuple #[.int .i64 r1, .bool r2]) ∧ Below w.heap.size w w' := by
  have HR0 := Aside0.mk hr0
  have HC0 := Aside0.mk hc0
  clear hr0 hc0
  have HB := Aside0.mk (Below.refl w.heap.size w)
  have H : ((bs_find.f l0 a1).bind fun bt291 => (some (bt291.1, bt291.2))) = some (r1, r2) := h
  clear h
  replace H := Option.bind_eq_some_iff.mp H
  obtain ⟨⟨t291, t292⟩, A30, H⟩ := H
  replace H : (some (t291, t292)) = some (r1, r2) := H
  have A3 := Aside0.mk A30
  clear A30
  simp only [Option.some.injEq, Prod.mk.injEq] at H
  obtain ⟨rfl, rfl⟩ := H
  go_enter Tryz.func59, Tryz.ntmps59
  go_wp2_with (first | ((with_reducible refine gate_callee (f := 89) rfl ?_); refine goesL_ (some 8) rfl rfl Tryz.func89 (by kernel_rfl) rfl #[.slice A0 l0.length c0, .string a1, .func (.func 90) #[] #[]] rfl gA ?_; (with_reducible refine (bs_find.calls _ _ l0 a1 t291 t292 _ ?side1 ?side2 A3.out).mono ?_); (case side1 => exact cN HR0); (case side2 => exact HC0.out); rintro e w4 ⟨rfl, hb⟩; refine ⟨_, rfl, ?_⟩; have n0_ := Aside0.mk (below_step (w := w) bW hb); clear HB; have HB := n0_; clear n0_; (try clear hb); (try clear hb2); (try clear hk); (try clear hi)))
  go_ret2
  exact ⟨rE, bW⟩
end Go.Proofs.YtblejbgkcgajgaaGreat.Q
end

section
namespace Go.Proofs.YtblejbgkcgajgaaGreat.Q
open Go Go.RowKit Go.Proofs.YtblejbgkcgajgaaGreatW.PrintWords Go.Proofs.YtblejbgkcgajgaaGreatW.PrintLast
set_option linter.unusedVariables false
set_option linter.unusedSimpArgs false
theorem setCells_setRow (g o : Nat) (t : TypeId) (vs : List Value) (cur : Array Value) (w : World) (hg : w.heap[g]? = some (.cells cur t (0, 0))) (hl : o + vs.length ≤ cur.size) :
    w.setCells g o vs = w.setRow g (cur.toList.take o ++ vs ++ cur.toList.drop (o + vs.length)).toArray := by
  induction vs generalizing o cur w with
  | nil =>
    simp only [World.setCells, List.append_nil, List.length_nil, Nat.add_zero, List.take_append_drop, Array.toArray_toList]
    rw [setRow_self w g cur t (0, 0) hg]
  | cons v rest ih =>
    have hi : o < cur.size := by simp at hl; omega
    rw [World.setCells, setCell_eq_setRow w g o cur t (0, 0) v hg, ih (o + 1) (cur.setIfInBounds o v) _ (setRow_heap w g cur _ t _ hg) (by simp at hl ⊢; omega), setRow_setRow]
    congr 2
    have e := list_seg_step cur.toList o v rest (by simp at hl ⊢; omega)
    simpa [Array.toList_setIfInBounds, Nat.add_assoc] using e
theorem run_clear_rowk {P : Program} (w : World) (t e ty : TypeId) (z : Value) (n : Nat) (ht : P.underlying t = some (.slice e)) (hv : ∀ w, (zeroValue e).run P w = .ok z w) (h1 : ∀ u ∈ (Builtin.zeroCells z.cells n).toList, u.oneCell' = true) (g o c : Nat) (cur : Array Value) (te : TypeId) (hn : 0 < n)
    (hg : w.heap[g]? = some (.cells cur te (0, 0))) (hl : o + (Builtin.zeroCells z.cells n).toList.length ≤ cur.size) :
    (Builtin.clear_ #[t] ty #[.slice (some ⟨g, o, none⟩) n c]).run P w = .ok (.tuple #[]) (w.setRow g (cur.toList.take o ++ (Builtin.zeroCells z.cells n).toList ++ cur.toList.drop (o + (Builtin.zeroCells z.cells n).toList.length)).toArray) := by
  have hst := run_storeCells_at P g o te (Builtin.zeroCells z.cells n).toList 0 cur w hg (by simpa using hl) h1
  simp only [Nat.add_zero] at hst
  obtain ⟨m, rfl⟩ : ∃ m, n = m + 1 := ⟨n - 1, by omega⟩
  simp [Builtin.clear_, run_underlying ht, hv, hst]
theorem run_copy_rowk {P : Program} (w : World) (dT sT ty elem : TypeId) (sz g o dLen dCap : Nat) (a : Addr) (sLen sCap m : Nat) (cur : Array Value) (t : TypeId) (cs : List Value)
    (hu : P.underlying dT = some (.slice elem)) (hs : (P.info? elem).map (·.size) = some sz)
    (hg : w.heap[g]? = some (.cells cur t (0, 0))) (hm : Nat.min sLen dLen = m) (hn : cs.length = m * sz)
    (hsrc : ∀ j v, cs[j]? = some v → w.cell? (a.add j) = some v) (hfit : o + cs.length ≤ cur.size) (h1 : ∀ v ∈ cs, v.oneCell' = true) :
    (Builtin.copy_ #[dT, sT] ty #[.slice (some ⟨g, o, none⟩) dLen dCap, .slice (some a) sLen sCap]).run P w =
      .ok (goInt m) (w.setRow g (cur.toList.take o ++ cs ++ cur.toList.drop (o + cs.length)).toArray) := by
  have hl := run_loadCells_list (P := P) w a cs hsrc
  have hst := run_storeCells_at P g o t cs 0 cur w hg (by simpa using hfit) h1
  cases hq : P.info? elem with
  | none => simp [hq] at hs
  | some i =>
    have hi : i.size = sz := by simpa [hq] using hs
    simp [Builtin.copy_, run_underlying hu, Builtin.lenOf, Builtin.firstCells, sizeOf, typeInfo, hq, hi, hm, ← hn, hl, hst]
section
variable {α : Type} {enc : α → List Value} {k : Nat}
theorem flat_len (hk : ∀ x, (enc x).length = k) : ∀ xs : List α, (xs.flatMap enc).length = xs.length * k
  | [] => by simp
  | x :: xs => by rw [List.flatMap_cons, List.length_append, hk, flat_len hk xs, List.length_cons, Nat.add_mul]; omega
theorem flat_take (hk : ∀ x, (enc x).length = k) : ∀ (xs : List α) (i : Nat), (xs.flatMap enc).take (i * k) = (xs.take i).flatMap enc
  | xs, 0 => by simp
  | [], i + 1 => by simp
  | x :: xs, i + 1 => by
    have e : (i + 1) * k = k + i * k := by rw [Nat.add_mul]; omega
    rw [List.flatMap_cons, List.take_succ_cons, List.flatMap_cons, ← flat_take hk xs i, e, List.take_append, hk]
    rw [List.take_of_length_le (by rw [hk]; omega), Nat.add_sub_cancel_left]
theorem flat_drop (hk : ∀ x, (enc x).length = k) : ∀ (xs : List α) (i : Nat), (xs.flatMap enc).drop (i * k) = (xs.drop i).flatMap enc
  | xs, 0 => by simp
  | [], i + 1 => by simp
  | x :: xs, i + 1 => by
    have e : (i + 1) * k = k + i * k := by rw [Nat.add_mul]; omega
    rw [List.flatMap_cons, List.drop_succ_cons, ← flat_drop hk xs i, e, List.drop_append, hk]
    rw [List.drop_eq_nil_of_le (by rw [hk]; omega), List.nil_append, Nat.add_sub_cancel_left]
theorem reps_flat (hk : ∀ x, (enc x).length = k) {xs : List α} {cs : List Value} (h : Reps (fun x c => c = enc x) k xs cs) : cs = xs.flatMap enc := by
  obtain ⟨hl, hr⟩ := h
  induction xs generalizing cs with
  | nil =>
    rw [List.length_nil, Nat.zero_mul] at hl
    rw [List.eq_nil_of_length_eq_zero hl]
    rfl
  | cons x xs ih =>
    have h0 := hr 0 x rfl
    rw [Nat.zero_mul, List.drop_zero] at h0
    have e : cs = cs.take k ++ cs.drop k := (List.take_append_drop k cs).symm
    rw [List.length_cons, Nat.add_mul, Nat.one_mul] at hl
    have h2 := ih (cs := cs.drop k) (by rw [List.length_drop, hl]; omega) (fun j p hj => by
      have h3 := hr (j + 1) p (by simpa using hj)
      rw [List.drop_drop]
      have e2 : k + j * k = (j + 1) * k := by rw [Nat.add_mul]; omega
      rw [e2]
      exact h3)
    rw [e, h0, h2, List.flatMap_cons]
theorem flat_reps (hk : ∀ x, (enc x).length = k) (xs : List α) : Reps (fun x c => c = enc x) k xs (xs.flatMap enc) := by
  refine ⟨flat_len hk xs, fun j p hj => ?_⟩
  obtain ⟨hj2, rfl⟩ := List.getElem?_eq_some_iff.mp hj
  rw [flat_drop hk, List.drop_eq_getElem_cons hj2, List.flatMap_cons, List.take_append, hk]
  rw [List.take_of_length_le (by rw [hk]; omega), Nat.sub_self, List.take_zero, List.append_nil]
variable {d : Kd α} {e base : Nat} {ok : Nat → Prop} {w : World} {v : Value} {xs : List α}
theorem flatR_open (hM : ∀ {w base ok x cs}, d.M w base ok x cs ↔ cs = enc x) (hk : ∀ x, (enc x).length = k) (hsz : d.sz = k) (h : Kd.R d e w base ok v xs) (hp : 0 < xs.length) :
    ∃ g cap cur, v = .slice (some ⟨g, 0, none⟩) xs.length cap ∧ base ≤ g ∧ ok g ∧ w.heap[g]? = some (.cells cur e (0, 0)) ∧ xs.length ≤ cap ∧ cap ≤ maxLen ∧ cur.size = cap * k ∧ cur.toList.take (xs.length * k) = xs.flatMap enc := by
  obtain ⟨h0, inner, ⟨hl, ho⟩, hr⟩ := h
  have e1 := reps_flat (k := d.sz) (fun x => (hk x).trans hsz.symm) (hr.imp_ (fun _ _ hp => hM.mp hp))
  rcases ho with ⟨rfl, hz⟩ | ⟨g, cap, cur, rfl, hb, hg, hn, hm, hs, ht⟩
  · omega
  · subst hsz
    exact ⟨g, cap, cur, rfl, hb, h0 g rfl, hg, hn, hm, hs, ht.trans e1⟩
theorem flatR_mk (hM : ∀ {w base ok x cs}, d.M w base ok x cs ↔ cs = enc x) (hk : ∀ x, (enc x).length = k) (hsz : d.sz = k) {g cap n : Nat} {cur : Array Value} (hn0 : n = xs.length) (hb : base ≤ g) (hok : ok g) (hg : w.heap[g]? = some (.cells cur e (0, 0))) (hn : n ≤ cap) (hm : cap ≤ maxLen) (hs : cur.size = cap * k) (ht : cur.toList.take (n * k) = xs.flatMap enc) :
    Kd.R d e w base ok (.slice (some ⟨g, 0, none⟩) n cap) xs := by
  subst hsz
  subst hn0
  exact ⟨fun j hj => by have : g = j := by simpa [Value.ownBlock] using hj
                        exact this ▸ hok, xs.flatMap enc, ⟨flat_len hk xs, .inr ⟨g, cap, cur, rfl, hb, hg, hn, hm, hs, ht⟩⟩, (flat_reps hk xs).imp_ (fun _ _ h => hM.mpr h)⟩
end
theorem wI {a b c : Nat} (h : a + b = c) (hc : c < 10000000) : IntKind.i64.wrap ((a : Int) + (b : Int)) = (c : Int) ∧ wrap64 ((a : Int) + (b : Int)) = (c : Int) := by
  subst h
  rw [IntKind.wrap_i64]
  unfold wrap64
  omega
theorem wS {a b c : Nat} (h : a = b + c) (hc : a < 10000000) : IntKind.i64.wrap ((a : Int) - (b : Int)) = (c : Int) ∧ wrap64 ((a : Int) - (b : Int)) = (c : Int) := by
  subst h
  rw [IntKind.wrap_i64]
  unfold wrap64
  omega
theorem row_shift {γ : Type} {cur cs e : List γ} {a b : Nat} (hb : b = a + e.length) (hc : b + cs.length ≤ cur.length) :
    (cur.take b ++ cs ++ cur.drop (b + cs.length)).take a ++ e ++ (cur.take b ++ cs ++ cur.drop (b + cs.length)).drop (a + e.length) = cur.take a ++ e ++ cs ++ cur.drop (b + cs.length) := by
  have h1 : (cur.take b).length = b := by rw [List.length_take]; omega
  rw [List.append_assoc (cur.take b), List.take_append_of_le_length (by rw [h1]; omega), List.take_take, Nat.min_eq_left (by omega), ← hb, List.drop_append, List.drop_eq_nil_of_le (by rw [h1]; omega), h1, Nat.sub_self, List.drop_zero, List.nil_append]
  simp only [List.append_assoc]
theorem row_two {γ : Type} {cur cs e : List γ} {a b : Nat} (hb : b = a + e.length) (hc : b + cs.length ≤ cur.length) :
    ((cur.take a ++ e ++ cur.drop (a + e.length)).take b ++ cs ++ (cur.take a ++ e ++ cur.drop (a + e.length)).drop (b + cs.length)).take (b + cs.length) = cur.take a ++ e ++ cs := by
  have h1 : (cur.take a ++ e).length = b := by rw [List.length_append, List.length_take]; omega
  have h2 : (cur.take a ++ e ++ cur.drop (a + e.length)).take b = cur.take a ++ e := by
    rw [List.take_append_of_le_length (by rw [h1]; omega), List.take_of_length_le (by rw [h1]; omega)]
  rw [h2, List.take_append_of_le_length (by rw [List.length_append, h1]; omega), List.take_of_length_le (by rw [List.length_append, h1]; omega)]
theorem kept_setRow {w W : World} {S : Nat → Prop} (h : Kept w W S) {g : Nat} (hg : S g ∨ w.heap.size ≤ g) (cs : Array Value) : Kept w (W.setRow g cs) S :=
  h.then_ (S2 := fun k => k = g) ⟨by simp, fun i _ hn => setRow_other W g i cs hn⟩ (fun k hk => by rw [hk]; exact hg)
def encE (x : S84) : List Value := [.string x.f0, .int .i64 x.f1]
theorem encE_len (x : S84) : (encE x).length = 2 := rfl
theorem entM {w : World} {base : Nat} {ok : Nat → Prop} {x : S84} {cs : List Value} : k84.M w base ok x cs ↔ cs = encE x :=
  ⟨fun h => k84_openM h, fun h => by rw [h]; exact k84_mkM w base ok x⟩
theorem zc1 : (Builtin.zeroCells (Value.agg #[.string ⟨#[]⟩, .int .i64 0]).cells 1).toList = [.string ⟨#[]⟩, .int .i64 0] := by
  simp [Builtin.zeroCells, Value.cells]
  try rfl
theorem one_flat (xs : List S84) : ∀ u ∈ xs.flatMap encE, u.oneCell' = true := by
  intro u hu
  obtain ⟨x, _, hx⟩ := List.mem_flatMap.mp hu
  simp only [encE, List.mem_cons, List.mem_nil_iff, or_false] at hx
  rcases hx with rfl | rfl <;> rfl
end Go.Proofs.YtblejbgkcgajgaaGreat.Q
end

section
namespace Go.Proofs.YtblejbgkcgajgaaGreat.Q
open Go.RowKit Go.Proofs.YtblejbgkcgajgaaGreatW.PrintWords Go.Proofs.YtblejbgkcgajgaaGreatW.PrintLast Go.Proofs.YtblejbgkcgajgaaGreatW.PrintMore
attribute [local go_sem] max2_int min2_int max_two min_two max_three min_three max_four min_four   -- for this text's walks alone
set_option linter.unusedVariables false
set_option linter.unusedSimpArgs false
attribute [local go_sem] bin_leq bin_gtr bin_geq
def sortEditL_ren : Go.Shelf.Ren := ⟨fun | 6 => 60 | 15 => 92 | 14 => 91 | 28 => 119 | 29 => 120 | 20 => 111 | 21 => 112 | 22 => 113 | 23 => 114 | 24 => 115 | 25 => 116 | 26 => 117 | 27 => 118 | 46 => 131 | 47 => 132 | 48 => 133 | 49 => 134 | 50 => 135 | 57 => 140 | n => n, fun | 22 => 30 | 24 => 68 | 25 => 100 | 3 => 3 | 39 => 125 | 0 => 0 | 53 => 143 | 55 => 145 | 4 => 4 | 46 => 137 | 45 => 136 | 50 => 96 | 5 => 5 | 9 => 9 | 66 => 152 | 70 => 156 | 76 => 159 | 77 => 160 | n => n, fun | n => n⟩
theorem sortEditL : Go.Proofs.SlLaysF0.n6 Tryz.prog sortEditL_ren := {
  mixed := by kernel_rfl
  f6 := ⟨Tryz.f60.name, by decide, Tryz.func60.trans (congrArg some (by kernel_rfl))⟩
  f14 := ⟨Tryz.f91.name, by decide, Tryz.func91.trans (congrArg some (by kernel_rfl))⟩
  f15 := Tryz.func92.trans (congrArg some (by kernel_rfl))
  f20 := ⟨Tryz.f111.name, by decide, Tryz.func111.trans (congrArg some (by kernel_rfl))⟩
  f21 := ⟨Tryz.f112.name, by decide, Tryz.func112.trans (congrArg some (by kernel_rfl))⟩
  f22 := ⟨Tryz.f113.name, by decide, Tryz.func113.trans (congrArg some (by kernel_rfl))⟩
  f23 := ⟨Tryz.f114.name, by decide, Tryz.func114.trans (congrArg some (by kernel_rfl))⟩
  f24 := ⟨Tryz.f115.name, by decide, Tryz.func115.trans (congrArg some (by kernel_rfl))⟩
  f25 := ⟨Tryz.f116.name, by decide, Tryz.func116.trans (congrArg some (by kernel_rfl))⟩
  f26 := ⟨Tryz.f117.name, by decide, Tryz.func117.trans (congrArg some (by kernel_rfl))⟩
  f27 := ⟨Tryz.f118.name, by decide, Tryz.func118.trans (congrArg some (by kernel_rfl))⟩
  f28 := Tryz.func119.trans (congrArg some (by kernel_rfl))
  f29 := Tryz.func120.trans (congrArg some (by kernel_rfl))
  f46 := ⟨Tryz.f131.name, by decide, Tryz.func131.trans (congrArg some (by kernel_rfl))⟩
  f47 := Tryz.func132.trans (congrArg some (by kernel_rfl))
  f48 := Tryz.func133.trans (congrArg some (by kernel_rfl))
  f49 := ⟨Tryz.f134.name, by decide, Tryz.func134.trans (congrArg some (by kernel_rfl))⟩
  f50 := ⟨Tryz.f135.name, by decide, Tryz.func135.trans (congrArg some (by kernel_rfl))⟩
  f57 := ⟨Tryz.f140.name, by decide, Tryz.func140.trans (congrArg some (by kernel_rfl))⟩
  t0 := Tryz.underlying0
  a0 := Tryz.isAgg0
  z0 := Tryz.sizeOf0
  v0 := Tryz.zeroValue0
  t3 := Tryz.underlying3
  a3 := Tryz.isAgg3
  z3 := Tryz.sizeOf3
  v3 := Tryz.zeroValue3
  t4 := Tryz.underlying4
  a4 := Tryz.isAgg4
  z4 := Tryz.sizeOf4
  v4 := Tryz.zeroValue4
  t5 := Tryz.underlying5
  a5 := Tryz.isAgg5
  z5 := Tryz.sizeOf5
  v5 := Tryz.zeroValue5
  t9 := Tryz.underlying9
  a9 := Tryz.isAgg9
  z9 := Tryz.sizeOf9
  v9 := Tryz.zeroValue9
  t22 := Tryz.underlying30
  a22 := Tryz.isAgg30
  z22 := Tryz.sizeOf30
  v22 := Tryz.zeroValue30
  t25 := Tryz.underlying100
  a25 := Tryz.isAgg100
  z25 := Tryz.sizeOf100
  v25 := Tryz.zeroValue100
  t39 := Tryz.underlying125
  a39 := Tryz.isAgg125
  z39 := Tryz.sizeOf125
  v39 := Tryz.zeroValue125
  t45 := Tryz.underlying136
  a45 := Tryz.isAgg136
  z45 := Tryz.sizeOf136
  v45 := Tryz.zeroValue136
  t46 := Tryz.underlying137
  a46 := Tryz.isAgg137
  z46 := Tryz.sizeOf137
  v46 := Tryz.zeroValue137
  t50 := Tryz.underlying96
  a50 := Tryz.isAgg96
  z50 := Tryz.sizeOf96
  v50 := Tryz.zeroValue96
  t53 := Tryz.underlying143
  a53 := Tryz.isAgg143
  z53 := Tryz.sizeOf143
  v53 := Tryz.zeroValue143
  t55 := Tryz.underlying145
  a55 := Tryz.isAgg145
  z55 := Tryz.sizeOf145
  v55 := Tryz.zeroValue145
  t66 := Tryz.underlying152
  a66 := Tryz.isAgg152
  z66 := Tryz.sizeOf152
  v66 := Tryz.zeroValue152
  t70 := Tryz.underlying156
  a70 := Tryz.isAgg156
  z70 := Tryz.sizeOf156
  v70 := Tryz.zeroValue156
  t76 := Tryz.underlying159
  a76 := Tryz.isAgg159
  z76 := Tryz.sizeOf159
  v76 := Tryz.zeroValue159
  t77 := Tryz.underlying160
  a77 := Tryz.isAgg160
  z77 := Tryz.sizeOf160
  v77 := Tryz.zeroValue160 }
instance : Inhabited S68 := ⟨z68⟩
def encD (x : S68) : List Value := [.string x.f0, .int .i64 x.f1, .bool x.f2]
theorem encD_len (x : S68) : (encD x).length = 3 := rfl
theorem ediM {w : World} {base : Nat} {ok : Nat → Prop} {x : S68} {cs : List Value} : k68.M w base ok x cs ↔ cs = encD x :=
  ⟨fun h => k68_openM h, fun h => by rw [h]; exact k68_mkM w base ok x⟩
theorem encD_one : ∀ x : S68, ∀ v ∈ encD x, v.oneCell' = true := by
  intro x v hv
  simp only [encD, List.mem_cons, List.mem_nil_iff, or_false] at hv
  rcases hv with rfl | rfl | rfl <;> rfl
def cmpE (x y : S68) : Int := cmpB x.f0 y.f0
theorem ltE (x y : S68) : Go.Proofs.ltOf cmpE x y = sblt x.f0 y.f0 := by
  unfold Go.Proofs.ltOf
  rw [Bool.eq_iff_iff, decide_eq_true_eq]
  unfold cmpE cmpB sblt
  rw [cmp_lt, ByteArray.toList_eq, ByteArray.toList_eq]
theorem sblt_ntr {x y z : ByteArray} (h1 : sblt x y = false) (h2 : sblt y z = false) : sblt x z = false := by
  cases h3 : sblt x z with
  | false => rfl
  | true =>
    cases h4 : sblt y x with
    | true => rw [sblt_trans h4 h3] at h2; cases h2
    | false =>
      obtain rfl := sblt_tri h1 h4
      rw [h3] at h2
      cases h2
theorem swoE : Go.Sort.SWO (Go.Proofs.ltOf cmpE) := by
  refine ⟨fun x => ?_, fun x y z h1 h2 => ?_, fun x y z h1 h2 => ?_⟩
  · rw [ltE]; exact sblt_irrefl _
  · rw [ltE] at *; exact sblt_trans h1 h2
  · rw [ltE] at *; exact sblt_ntr h1 h2
def sortE (l : List S68) : List S68 := (Go.Sort.pdq (Go.Proofs.ltOf cmpE) l.toArray 0 l.toArray.size (Go.Lib.bitLen l.toArray.size) true true).toList
theorem sortE_is (l : List S68) : (sortE l).Perm l ∧ (sortE l).Pairwise (fun a b => sblt b.f0 a.f0 = false) := by
  obtain ⟨⟨hs, _, hp⟩, ho⟩ := Go.Sort.pdq_sorts (Go.Proofs.ltOf cmpE) swoE l.toArray 0 l.toArray.size (Go.Lib.bitLen l.toArray.size) true true (Nat.zero_le _) (Nat.le_refl _) (Or.inl rfl)
  have e1 : ∀ a : Array S68, a.size = l.toArray.size → a.extract 0 l.toArray.size = a := fun a h => by rw [← h]; exact Array.extract_size
  rw [e1 _ hs, e1 _ rfl] at hp
  refine ⟨hp, ?_⟩
  rw [List.pairwise_iff_getElem]
  intro i j hi hj hij
  have hi' : i < (Go.Sort.pdq (Go.Proofs.ltOf cmpE) l.toArray 0 l.toArray.size (Go.Lib.bitLen l.toArray.size) true true).size := by simpa [sortE] using hi
  have hj' : j < (Go.Sort.pdq (Go.Proofs.ltOf cmpE) l.toArray 0 l.toArray.size (Go.Lib.bitLen l.toArray.size) true true).size := by simpa [sortE] using hj
  have h := ho i j (Nat.zero_le _) hij (by rw [← hs]; exact hj')
  rw [ltE, getElem!_pos _ i hi', getElem!_pos _ j hj'] at h
  simpa [sortE] using h
theorem sortE_len (l : List S68) : (sortE l).length = l.length := (sortE_is l).1.length_eq
theorem flat_get {α : Type} {enc : α → List Value} {k : Nat} (hk : ∀ x, (enc x).length = k) (hk0 : 0 < k) (l : List α) (t : Nat) (ht : t < l.length * k) : (l.flatMap enc)[t]? = (enc (l[t / k]'(Nat.div_lt_of_lt_mul (by rw [Nat.mul_comm]; exact ht))))[t % k]? := by
  have hq : t / k < l.length := Nat.div_lt_of_lt_mul (by rw [Nat.mul_comm]; exact ht)
  have hr : t % k < k := Nat.mod_lt _ hk0
  have e : t = t / k * k + t % k := by rw [Nat.mul_comm]; exact (Nat.div_add_mod t k).symm
  have e2 : (l.flatMap enc)[t]? = ((l.flatMap enc).drop (t / k * k))[t % k]? := by rw [List.getElem?_drop, ← e]
  rw [e2, flat_drop hk, List.drop_eq_getElem_cons hq, List.flatMap_cons, List.getElem?_append_left (by rw [hk]; exact hr)]
theorem flatK_is (l : List S68) : (Go.Sort.flatK encD 3 l.toArray).toList = l.flatMap encD := by
  apply List.ext_getElem?
  intro t
  by_cases ht : t < l.length * 3
  · have hq : t / 3 < l.length := by omega
    rw [flat_get encD_len (by decide) l t ht]
    have hr : t % 3 < (encD l[t / 3]).length := by rw [encD_len]; omega
    rw [List.getElem?_eq_getElem hr]
    simp only [Go.Sort.flatK, Array.getElem?_toList, Array.getElem?_map]
    rw [Array.getElem?_range, if_pos (by simpa using ht), Option.map_some, getElem!_pos _ (t / 3) (by simpa using hq), getElem!_pos _ (t % 3) (by simpa using hr)]
    rfl
  · rw [List.getElem?_eq_none (by simpa using Nat.not_lt.mp ht), List.getElem?_eq_none (by rw [flat_len encD_len]; omega)]
theorem holdsE {w : World} {g : Nat} {cur : Array Value} {e : TypeId} {l : List S68} (hb : w.heap[g]? = some (.cells cur e (0, 0))) (ht : cur.toList.take (l.length * 3) = l.flatMap encD) : Go.Sort.HoldsK encD 3 w g 0 l.toArray := by
  intro j hj
  have hj' : j < l.length * 3 := by simpa using hj
  refine ⟨?_, by simp [World.frozen?, hb]⟩
  have h1 : (cur.toList.take (l.length * 3))[j]? = (Go.Sort.flatK encD 3 l.toArray).toList[j]? := by rw [ht, flatK_is]
  rw [List.getElem?_take_of_lt hj', Array.getElem?_toList, Array.getElem?_toList, Array.getElem?_eq_getElem hj] at h1
  rw [getElem!_pos _ j hj]
  simp only [World.cell?, hb, Nat.zero_add]
  simp only [Option.isSome_none, Bool.false_eq_true, if_false]
  rw [h1]
  rfl
theorem heapE {w : World} {g n : Nat} {os : Array Obj} {cur : Array Value} {e : TypeId} {fr : Nat × Nat} (d : Array S68) (hb : w.heap[g]? = some (.cells cur e fr)) :
    (Go.Proofs.sortWorldK encD 3 w g 0 n d os).heap[g]? = some (.cells (Go.Sort.putCells id 0 (Go.Sort.flatK encD 3 d) cur) e fr) := by
  have hg : g < w.heap.size := (Array.getElem?_eq_some_iff.1 hb).1
  unfold Go.Proofs.sortWorldK Go.Sort.putRowK
  rw [Go.Sort.heap_grow_old _ _ (by simpa [Go.Sort.ahead] using hg)]
  simp [Go.Sort.putRow, Go.Sort.mapBlock, Go.Sort.ahead, Array.getElem?_modify, hb, Go.Sort.onCells]
theorem grownE {w : World} {g n : Nat} {os : Array Obj} (d : Array S68) : w.grownBy (Go.Proofs.sortWorldK encD 3 w g 0 n d os) (some g) := by
  unfold Go.Proofs.sortWorldK Go.Sort.putRowK
  refine ⟨rfl, rfl, rfl, by simp [Go.Sort.ahead], fun k hk hne => ?_⟩
  rw [Go.Sort.heap_grow_old _ _ (by simpa [Go.Sort.ahead] using hk)]
  have : g ≠ k := fun e => hne (by rw [e])
  simp [Go.Sort.putRow, Go.Sort.mapBlock, Go.Sort.ahead, Array.getElem?_modify, this]
theorem takeE (cur : Array Value) (l : List S68) (h : l.length * 3 ≤ cur.size) : (Go.Sort.putCells id 0 (Go.Sort.flatK encD 3 l.toArray) cur).toList.take (l.length * 3) = l.flatMap encD := by
  rw [← flatK_is]
  apply List.ext_getElem?
  intro j
  by_cases hj : j < l.length * 3
  · have hj2 : j < (Go.Sort.flatK encD 3 l.toArray).size := by simpa using hj
    rw [List.getElem?_take_of_lt hj, Array.getElem?_toList, Array.getElem?_toList, Array.getElem?_eq_getElem hj2]
    simp only [Go.Sort.putCells, Array.getElem?_mapIdx]
    rw [Array.getElem?_eq_getElem (show j < cur.size by omega), Option.map_some, if_pos ⟨Nat.zero_le _, by omega⟩, Nat.sub_zero, getElem!_pos _ j hj2]
    rfl
  · rw [List.getElem?_take_eq_none (by omega), List.getElem?_eq_none (by simp; omega)]
end Go.Proofs.YtblejbgkcgajgaaGreat.Q
end

section
namespace Go.Proofs.YtblejbgkcgajgaaGreat.Q
open Go.RowKit Go.Proofs.YtblejbgkcgajgaaGreatW.PrintWords Go.Proofs.YtblejbgkcgajgaaGreatW.PrintLast Go.Proofs.YtblejbgkcgajgaaGreatW.PrintMore
attribute [local go_sem] max2_int min2_int max_two min_two max_three min_three max_four min_four   -- for this text's walks alone
set_option linter.unusedVariables false
set_option linter.unusedSimpArgs false
attribute [local go_sem] bin_leq bin_gtr bin_geq
def sort_Edit.f (l0 : List (S68)) : Option (List (S68)) := if l0.length < 4611686018427387904 then some (sortE l0) else none
theorem cmp_calls (x y : S68) (W : World) : Calls Tryz.prog 61 #[.agg #[.string x.f0, .int .i64 x.f1, .bool x.f2], .agg #[.string y.f0, .int .i64 y.f1, .bool y.f2]] W fun e w' => e = .returned (.int .i64 (cmpE x y)) ∧ ∃ q os', w' = Go.Sort.grow (W.drewN q) os' := by
  have A2 := Aside0.mk (show strings_Compare.f x.f0 y.f0 = some (cmpE x y) from rfl)
  generalize cmpE x y = r at A2 ⊢
  go_enter Tryz.func61, Tryz.ntmps61
  go_wp2_with (go_at_call 62; (with_reducible refine (strings_Compare.calls _ _ _ _ A2.out).mono ?_); rintro e w' ⟨rfl, ⟨n, rfl⟩⟩)
  go_ret
  exact ⟨rfl, _, _, by rw [Go.Sort.alloc_eq_grow, Go.Sort.alloc_eq_grow, Go.Sort.grow_grow]; rfl⟩
theorem sort_Edit.calls (P0_ : Nat → Prop) (u9000_ : Value) (l0 : List (S68)) (r : List (S68)) (w0 w : World) (hB : Below w0.heap.size w0 w) (ho0 : Kd.R k68 68 w w0.heap.size P0_ u9000_ l0) (h : sort_Edit.f l0 = some r) :
    Calls Tryz.prog 60 #[u9000_, .func (.func 61) #[] #[]] w fun e w' => e = .returned (.tuple #[]) ∧ Kd.R k68 68 w' w0.heap.size (fun k_ => (P0_ k_ ∨ w.heap.size ≤ k_)) u9000_ r ∧ Below w0.heap.size w0 w' ∧ Kept w w' (fun k_ => P0_ k_) := by
  unfold sort_Edit.f at h
  by_cases hlen : l0.length < 4611686018427387904
  case neg => rw [if_neg hlen] at h; cases h
  rw [if_pos hlen] at h
  obtain rfl := Option.some.inj h
  clear h
  by_cases hp : 0 < l0.length
  · obtain ⟨g, cap, cur, rfl, hbg, hok, hg, hn, hm, hs, ht⟩ := flatR_open (enc := encD) ediM encD_len rfl ho0 hp
    have hblk : g < w.heap.size := blk_lt hg
    refine (Go.Proofs.AnyQ.slices_SortFunc_eq sortEditL 3 Tryz.isAgg68 Tryz.sizeOf68 encD encD_len encD_one cmpE swoE 61 #[] g 0 cap l0.toArray w (enters_ Tryz.func61 (by kernel_rfl) rfl) (fun m os dk _ x y => cmp_calls x y _) (holdsE hg ht) hblk hlen).mono ?_
    rintro e w' ⟨rfl, n, os, rfl⟩
    have hl : (sortE l0).length = l0.length := sortE_len l0
    refine ⟨rfl, ?_, Below.grown hB (grownE _) hB.size (fun k hk => by injection hk with hk; rw [← hk]; exact hbg), ?_⟩
    · refine flatR_mk (enc := encD) ediM encD_len rfl hl.symm hbg (.inl hok) (heapE _ hg) hn hm (by rw [Go.Sort.putCells, Array.size_mapIdx]; exact hs) ?_
      have e1 : Go.Sort.pdq (Go.Proofs.ltOf cmpE) l0.toArray 0 l0.toArray.size (Go.Lib.bitLen l0.toArray.size) true true = (sortE l0).toArray := by simp [sortE]
      rw [e1, ← hl]
      exact takeE cur (sortE l0) (by rw [hl, hs]; exact Nat.mul_le_mul_right 3 hn)
    · obtain ⟨_, _, _, gs, gb⟩ := grownE (w := w) (g := g) (n := n) (os := os) (Go.Sort.pdq (Go.Proofs.ltOf cmpE) l0.toArray 0 l0.toArray.size (Go.Lib.bitLen l0.toArray.size) true true)
      exact ⟨gs, fun k hk hS => gb k hk (fun e_ => hS (by injection e_ with e_; rw [e_]; exact hok))⟩
  · have h0 : l0 = [] := List.eq_nil_of_length_eq_zero (by omega)
    subst h0
    obtain ⟨A, c, rfl⟩ := Kd.R_slice ho0
    refine (Go.Proofs.AnyF.slices_SortFunc_none { sortEditL with } A c _ w).mono ?_
    rintro e w' ⟨rfl, rfl⟩
    have e0 : sortE [] = [] := List.eq_nil_of_length_eq_zero (by rw [sortE_len]; rfl)
    rw [e0]
    exact ⟨rfl, Kd.R_mono ho0 (fun _ hk => .inl hk), hB, Kept.refl _ _⟩
end Go.Proofs.YtblejbgkcgajgaaGreat.Q
end

section
namespace Go.Proofs.YtblejbgkcgajgaaGreat.Q
open Go.RowKit Go.Proofs.YtblejbgkcgajgaaGreatW.PrintWords Go.Proofs.YtblejbgkcgajgaaGreatW.PrintLast Go.Proofs.YtblejbgkcgajgaaGreatW.PrintMore
attribute [local go_sem] max2_int min2_int max_two min_two max_three min_three max_four min_four   -- for this text's walks alone
set_option linter.unusedVariables false
set_option linter.unusedSimpArgs false
attribute [local go_sem] bin_leq bin_gtr bin_geq
mutual
def impl_diff.l0 : Nat → List (S84) → List (S84) → List (S68) → List (S84) → Int → Int → Option ((List (S68)))
  | 0, _, _, _, _, _, _ => none
  | k + 1, x0, x1, x5, x14, x15, x16 => if x16 < x15 then (if 0 ≤ x16 then (if x16 < (x14.length : Int) then ((impl_find.f x0 ((rd_T84 x14 x16).f0)).bind fun bt297 => (if bt297.2 = true then (if 0 ≤ bt297.1 then (if bt297.1 < (x0.length : Int) then (if ((rd_T84 x0 bt297.1).f1) = ((rd_T84 x14 x16).f1) then (impl_diff.l0 k x0 x1 x5 x14 x15 (wrap64 (x16 + 1))) else (if x5.length < 4398046511104 then (impl_diff.l0 k x0 x1 (x5 ++ [(⟨(rd_T84 x14 x16).f0, (rd_T84 x14 x16).f1, false⟩ : S68)]) x14 x15 (wrap64 (x16 + 1))) else (none))) else (none)) else (none)) else (if x5.length < 4398046511104 then (impl_diff.l0 k x0 x1 (x5 ++ [(⟨(rd_T84 x14 x16).f0, (rd_T84 x14 x16).f1, false⟩ : S68)]) x14 x15 (wrap64 (x16 + 1))) else (none)))) else (none)) else (none)) else (impl_diff.l1 k x1 x5 x0 (x0.length : Int) 0)
def impl_diff.l1 : Nat → List (S84) → List (S68) → List (S84) → Int → Int → Option ((List (S68)))
  | 0, _, _, _, _, _ => none
  | k + 1, x1, x5, x48, x49, x50 => if x50 < x49 then (if 0 ≤ x50 then (if x50 < (x48.length : Int) then ((impl_find.f x1 ((rd_T84 x48 x50).f0)).bind fun bt308 => (if bt308.2 = true then (impl_diff.l1 k x1 x5 x48 x49 (wrap64 (x50 + 1))) else (if x5.length < 4398046511104 then (impl_diff.l1 k x1 (x5 ++ [(⟨(rd_T84 x48 x50).f0, 0, true⟩ : S68)]) x48 x49 (wrap64 (x50 + 1))) else (none)))) else (none)) else (none)) else ((sort_Edit.f x5).bind fun t313 => (some t313))
end
def impl_diff.f (k : Nat) (l0 : List (S84)) (l1 : List (S84)) : Option ((List (S68))) := impl_diff.l0 k l0 l1 ([] : List (S68)) l1 (l1.length : Int) 0
set_option maxHeartbeats 8000000 in
set_option maxRecDepth 100000 in
theorem impl_diff.calls (k : Nat) (A0 : Option Addr) (c0 : Nat) (l0 : List (S84)) (A1 : Option Addr) (c1 : Nat) (l1 : List (S84)) (r : List (S68)) (w : World) (hr0 : Kd.C k84 w A0 l0.length l0) (hc0 : l0.length ≤ c0) (hr1 : Kd.C k84 w A1 l1.length l1) (hc1 : l1.length ≤ c1) (h : impl_diff.f k l0 l1 = some r) :
    Calls Tryz.prog 34 #[.slice A0 l0.length c0, .slice A1 l1.length c1] w fun e w' => ∃ v0_ : Value, e = .returned (v0_) ∧ Kd.R k68 68 w' w.heap.size (fun _ => True) v0_ r ∧ Below w.heap.size w w' := by
  have hu84 := Tryz.underlying84
  have hu68 := Tryz.underlying68
  have HR0 := Aside0.mk hr0
  have HC0 := Aside0.mk hc0
  clear hr0 hc0
  have HR1 := Aside0.mk hr1
  have HC1 := Aside0.mk hc1
  clear hr1 hc1
  have HB := Aside0.mk (Below.refl w.heap.size w)
  have H : (impl_diff.l0 k l0 l1 ([] : List (S68)) l1 (l1.length : Int) 0) = some r := h
  clear h
  have H' := Aside0.mk H
  clear H
  go_enter Tryz.func34, Tryz.ntmps34
  go_wp2
  go_loopg [5, 16] k (fun kq v5 v16 w' => ∃ (x5_1 : List (S68)) (x16_1 : Int), v16 = .int .i64 x16_1 ∧ Aside0 (impl_diff.l0 kq l0 l1 x5_1 l1 (l1.length : Int) x16_1 = some r) ∧ Aside0 (kq ≤ k) ∧ Aside0 (Kd.R k68 68 w' w.heap.size (fun _ => True) v5 x5_1) ∧ Aside0 (Below w.heap.size w w'))
  case atStart => exact ⟨(([] : List (S68))), (0), vE, H', ⟨Nat.le_refl _⟩, ⟨by exact Kd.R_nil _ _ _ _ _⟩, ⟨bW⟩⟩
  case round =>
    clear H'
    obtain ⟨x5_1, x16_1, rfl, HA, HK1, HO_5, HB⟩ := hrel
    cases gk with
    | zero => exact absurd HA.out (by simp [impl_diff.l0])
    | succ k1 =>
      have H := HA.out
      clear HA
      simp only [impl_diff.l0] at H
      by_cases c3 : x16_1 < (l1.length : Int)
      · rw [if_pos c3] at H
        have c3b0 : decide (x16_1 < (l1.length : Int)) = true := decide_eq_true c3
        clear c3
        by_cases c4 : 0 ≤ x16_1
        · rw [if_pos c4] at H
          have c4b0 : decide (0 ≤ x16_1) = true := decide_eq_true c4
          clear c4
          by_cases c5 : x16_1 < (l1.length : Int)
          · rw [if_pos c5] at H
            have c5b0 : decide (x16_1 < (l1.length : Int)) = true := decide_eq_true c5
            clear c5
            replace H := Option.bind_eq_some_iff.mp H
            obtain ⟨⟨t297, t298⟩, A60, H⟩ := H
            replace H : (if t298 = true then (if 0 ≤ t297 then (if t297 < (l0.length : Int) then (if ((rd_T84 l0 t297).f1) = ((rd_T84 l1 x16_1).f1) then (impl_diff.l0 k1 l0 l1 x5_1 l1 (l1.length : Int) (wrap64 (x16_1 + 1))) else (if x5_1.length < 4398046511104 then (impl_diff.l0 k1 l0 l1 (x5_1 ++ [(⟨(rd_T84 l1 x16_1).f0, (rd_T84 l1 x16_1).f1, false⟩ : S68)]) l1 (l1.length : Int) (wrap64 (x16_1 + 1))) else (none))) else (none)) else (none)) else (if x5_1.length < 4398046511104 then (impl_diff.l0 k1 l0 l1 (x5_1 ++ [(⟨(rd_T84 l1 x16_1).f0, (rd_T84 l1 x16_1).f1, false⟩ : S68)]) l1 (l1.length : Int) (wrap64 (x16_1 + 1))) else (none))) = some r := H
            have A6 := Aside0.mk A60
            clear A60
            by_cases c7 : t298 = true
            · subst c7
              have H1 : (if 0 ≤ t297 then (if t297 < (l0.length : Int) then (if ((rd_T84 l0 t297).f1) = ((rd_T84 l1 x16_1).f1) then (impl_diff.l0 k1 l0 l1 x5_1 l1 (l1.length : Int) (wrap64 (x16_1 + 1))) else (if x5_1.length < 4398046511104 then (impl_diff.l0 k1 l0 l1 (x5_1 ++ [(⟨(rd_T84 l1 x16_1).f0, (rd_T84 l1 x16_1).f1, false⟩ : S68)]) l1 (l1.length : Int) (wrap64 (x16_1 + 1))) else (none))) else (none)) else (none)) = some r := by rw [if_pos rfl] at H; exact H
              clear H
              have H := H1
              clear H1
              by_cases c8 : 0 ≤ t297
              · rw [if_pos c8] at H
                have c8b0 : decide (0 ≤ t297) = true := decide_eq_true c8
                clear c8
                by_cases c9 : t297 < (l0.length : Int)
                · rw [if_pos c9] at H
                  have c9b0 : decide (t297 < (l0.length : Int)) = true := decide_eq_true c9
                  clear c9
                  by_cases c10 : ((rd_T84 l0 t297).f1) = ((rd_T84 l1 x16_1).f1)
                  · rw [if_pos c10] at H
                    have c10b0 : (((rd_T84 l0 t297).f1) == ((rd_T84 l1 x16_1).f1)) = true := beq_iff_eq.mpr c10
                    have c10b1 : (((rd_T84 l0 t297).f1) != ((rd_T84 l1 x16_1).f1)) = false := bne_eq_false_iff_eq.mpr c10
                    clear c10
                    have H' := Aside0.mk H
                    clear H
                    have p295 : 0 ≤ (x16_1 : Int) := odt
                    have q295 : x16_1 < (l1.length : Int) := odt
                    obtain ⟨ad295, e295, hx295_0, hx295_1⟩ := at_T84 HR1.out x16_1 p295 q295
                    cases e295
                    replace hx295_0 := (HB.out.cell (World.block_lt_of_cell? w _ hx295_0)).trans hx295_0
                    replace hx295_1 := (HB.out.cell (World.block_lt_of_cell? w _ hx295_1)).trans hx295_1
                    replace p295 := eq_true p295
                    replace q295 := eq_true q295
                    go_wp2_with (first | ((with_reducible refine gate_dst (N := 7) rfl ?_); refine bE (N := 7) (cs := #[.string (⟨#[]⟩ : ByteArray), .int .i64 0]) (t := 84) ?_; intro gb296 hg w11 hbox hb; have n0_ := Aside0.mk (Kd.R_below (pR HO_5) hb); have n1_ := Aside0.mk (below_step (w := w) bW hb); have n2_ := Aside0.mk (hbox); have n3_ := Aside0.mk (gS (w := w) hg); have n4_ := n3_; clear HO_5; clear HB; have HO_5 := n0_; have HB := n1_; have BK296 := n2_; have GW296 := n3_; have GE296 := n4_; clear n0_ n1_ n2_ n3_ n4_; clear hb hbox hg; obtain ⟨hcz12_0, hcz12_1⟩ := cz2 BK296; obtain ⟨hfz12_0, hfz12_1⟩ := fz2 BK296) | (go_at_call 59; (with_reducible refine (impl_find.calls _ _ l0 ((rd_T84 l1 x16_1).f0) t297 true _ ?side1 ?side2 A6.out).mono ?_); (case side1 => exact Kd.C_below HR0.out bW); (case side2 => exact HC0.out); rintro e w13 ⟨rfl, hb⟩; have n0_ := Aside0.mk (Kd.R_below (by exact (Kd.R_mono (Kd.R_far (p := ⟨gb296, 1, none⟩) (Kd.R_far (p := ⟨gb296, 0, none⟩) (Kd.R_types HO_5.out BK296.out (by decide)) (fun _ hk => hk.2) (.string ((rd_T84 l1 x16_1).f0))) (fun _ hk => hk.2) (.int .i64 ((rd_T84 l1 x16_1).f1))) (fun _ h_ => h_.1))) hb); have n1_ := Aside0.mk (blk_below (g := gb296) (o := .cells #[.string ((rd_T84 l1 x16_1).f0), .int .i64 ((rd_T84 l1 x16_1).f1)] 84 (0, 0)) (by refine blk_put (cs := #[.string ((rd_T84 l1 x16_1).f0), .int .i64 0]) ?_ 1 _ rfl; refine blk_put (cs := #[.string (⟨#[]⟩ : ByteArray), .int .i64 0]) ?_ 0 _ rfl; exact BK296.out) hb); have n2_ := Aside0.mk (below_step (w := w) bW hb); clear HO_5; clear BK296; clear HB; have HO_5 := n0_; have BK296 := n1_; have HB := n2_; clear n0_ n1_ n2_; (try clear hb); have p299 : 0 ≤ (t297 : Int) := odt; have q299 : t297 < (l0.length : Int) := odt; obtain ⟨ad299, e299, hx299_0, hx299_1⟩ := at_T84 HR0.out t297 p299 q299; cases e299; replace hx299_0 := (HB.out.cell (World.block_lt_of_cell? w _ hx299_0)).trans hx299_0; replace hx299_1 := (HB.out.cell (World.block_lt_of_cell? w _ hx299_1)).trans hx299_1; replace p299 := eq_true p299; replace q299 := eq_true q299; obtain ⟨hcz14_0, hcz14_1⟩ := cz2 BK296; obtain ⟨hfz14_0, hfz14_1⟩ := fz2 BK296))
                    repeat (go_quiet (fail); try go_wp2_with (fail))
                    go_roundg k1
                    case measure => have := HK1.out; omega
                    case rel => exact ⟨(x5_1), (wrap64 (x16_1 + 1)), vE, H', ⟨by have := HK1.out; omega⟩, ⟨by (with_reducible repeat (apply Kd.R_drewN)); exact HO_5.out⟩, ⟨bW⟩⟩
                  · rw [if_neg c10] at H
                    have c10b0 : (((rd_T84 l0 t297).f1) == ((rd_T84 l1 x16_1).f1)) = false := beq_eq_false_iff_ne.mpr c10
                    have c10b1 : (((rd_T84 l0 t297).f1) != ((rd_T84 l1 x16_1).f1)) = true := bne_iff_ne.mpr c10
                    by_cases c15 : x5_1.length < 4398046511104
                    · rw [if_pos c15] at H
                      have LMc15 := Aside0.mk c15
                      clear c15
                      obtain ⟨y300, hy300⟩ : ∃ y_ : List (S68), y_ = (x5_1 ++ [(⟨(rd_T84 l1 x16_1).f0, (rd_T84 l1 x16_1).f1, false⟩ : S68)]) := ⟨_, rfl⟩
                      replace H : (impl_diff.l0 k1 l0 l1 y300 l1 (l1.length : Int) (wrap64 (x16_1 + 1))) = some r := by (rw [hy300]; with_reducible exact H)
                      have Ny300 := Aside0.mk hy300
                      clear hy300
                      have H' := Aside0.mk H
                      clear H
                      have p295 : 0 ≤ (x16_1 : Int) := odt
                      have q295 : x16_1 < (l1.length : Int) := odt
                      obtain ⟨ad295, e295, hx295_0, hx295_1⟩ := at_T84 HR1.out x16_1 p295 q295
                      cases e295
                      replace hx295_0 := (HB.out.cell (World.block_lt_of_cell? w _ hx295_0)).trans hx295_0
                      replace hx295_1 := (HB.out.cell (World.block_lt_of_cell? w _ hx295_1)).trans hx295_1
                      replace p295 := eq_true p295
                      replace q295 := eq_true q295
                      go_wp2_with (first | ((with_reducible refine gate_dst (N := 7) rfl ?_); refine bE (N := 7) (cs := #[.string (⟨#[]⟩ : ByteArray), .int .i64 0]) (t := 84) ?_; intro gb296 hg w16 hbox hb; have n0_ := Aside0.mk (Kd.R_below (pR HO_5) hb); have n1_ := Aside0.mk (below_step (w := w) bW hb); have n2_ := Aside0.mk (hbox); have n3_ := Aside0.mk (gS (w := w) hg); have n4_ := n3_; clear HO_5; clear HB; have HO_5 := n0_; have HB := n1_; have BK296 := n2_; have GW296 := n3_; have GE296 := n4_; clear n0_ n1_ n2_ n3_ n4_; clear hb hbox hg; obtain ⟨hcz17_0, hcz17_1⟩ := cz2 BK296; obtain ⟨hfz17_0, hfz17_1⟩ := fz2 BK296) | (go_at_call 59; (with_reducible refine (impl_find.calls _ _ l0 ((rd_T84 l1 x16_1).f0) t297 true _ ?side1 ?side2 A6.out).mono ?_); (case side1 => exact Kd.C_below HR0.out bW); (case side2 => exact HC0.out); rintro e w18 ⟨rfl, hb⟩; have n0_ := Aside0.mk (Kd.R_below (by exact (Kd.R_mono (Kd.R_far (p := ⟨gb296, 1, none⟩) (Kd.R_far (p := ⟨gb296, 0, none⟩) (Kd.R_types HO_5.out BK296.out (by decide)) (fun _ hk => hk.2) (.string ((rd_T84 l1 x16_1).f0))) (fun _ hk => hk.2) (.int .i64 ((rd_T84 l1 x16_1).f1))) (fun _ h_ => h_.1))) hb); have n1_ := Aside0.mk (blk_below (g := gb296) (o := .cells #[.string ((rd_T84 l1 x16_1).f0), .int .i64 ((rd_T84 l1 x16_1).f1)] 84 (0, 0)) (by refine blk_put (cs := #[.string ((rd_T84 l1 x16_1).f0), .int .i64 0]) ?_ 1 _ rfl; refine blk_put (cs := #[.string (⟨#[]⟩ : ByteArray), .int .i64 0]) ?_ 0 _ rfl; exact BK296.out) hb); have n2_ := Aside0.mk (below_step (w := w) bW hb); clear HO_5; clear BK296; clear HB; have HO_5 := n0_; have BK296 := n1_; have HB := n2_; clear n0_ n1_ n2_; (try clear hb); have p299 : 0 ≤ (t297 : Int) := odt; have q299 : t297 < (l0.length : Int) := odt; obtain ⟨ad299, e299, hx299_0, hx299_1⟩ := at_T84 HR0.out t297 p299 q299; cases e299; replace hx299_0 := (HB.out.cell (World.block_lt_of_cell? w _ hx299_0)).trans hx299_0; replace hx299_1 := (HB.out.cell (World.block_lt_of_cell? w _ hx299_1)).trans hx299_1; replace p299 := eq_true p299; replace q299 := eq_true q299; obtain ⟨hcz19_0, hcz19_1⟩ := cz2 BK296; obtain ⟨hfz19_0, hfz19_1⟩ := fz2 BK296))
                      repeat (go_quiet (fail); try go_wp2_with (((with_reducible refine gate_builtin (b := .append) (xs := #[.tmp 39, .tmp 45]) rfl ?_); at_builtin; refine Kd.R_append k68 (w0 := w) w.heap.size rfl (.tmp 39) (.tmp 45) 30 68 (.agg #[(.string ⟨#[]⟩), (.int .i64 0), (.bool false)]) 32 rfl Tryz.underlying30 info68 rfl (by decide) (by omega) u5 x5_1 (⟨(rd_T84 l1 x16_1).f0, (rd_T84 l1 x16_1).f1, false⟩ : S68) [.string ((rd_T84 l1 x16_1).f0), .int .i64 ((rd_T84 l1 x16_1).f1), .bool false] (fun _ => True) (fun _ => False) rfl rfl ?aP (fun _ hk => hk.elim) ?aF ?aO ?aB ?aS ?aL ?_; (case aP => exact k68_mkM _ _ _ (⟨(rd_T84 l1 x16_1).f0, (rd_T84 l1 x16_1).f1, false⟩ : S68)); (case aB => exact bW); (case aF => exact (fun _ _ => trivial)); (case aO => exact (pR HO_5)); (case aS => exact (below_size (w := w) bW)); (case aL => have := LMc15.out; omega); intro v301 w20 ho hb hg hat; rw [← Ny300.out] at ho; have n0_ := Aside0.mk (blk_grown (g := gb296) (o := .cells #[.string ((rd_T84 l1 x16_1).f0), .int .i64 ((rd_T84 l1 x16_1).f1)] 84 (0, 0)) (kB BK296) hg (Kd.R_ne HO_5.out BK296.out (by decide))); have n1_ := Aside0.mk (hb); have n2_ := Aside0.mk (ho); clear BK296; clear HB; clear HO_5; have BK296 := n0_; have HB := n1_; have HO302 := n2_; clear n0_ n1_ n2_; clear ho hb hg hat)))
                      go_roundg k1
                      case measure => have := HK1.out; omega
                      case rel => exact ⟨(y300), (wrap64 (x16_1 + 1)), vE, H', ⟨by have := HK1.out; omega⟩, ⟨by exact HO302.out⟩, ⟨bW⟩⟩
                    · rw [if_neg c15] at H
                      exact absurd H (by simp)
                · rw [if_neg c9] at H
                  exact absurd H (by simp)
              · rw [if_neg c8] at H
                exact absurd H (by simp)
            · replace c7 := Bool.eq_false_iff.mpr c7
              subst c7
              have H1 : (if x5_1.length < 4398046511104 then (impl_diff.l0 k1 l0 l1 (x5_1 ++ [(⟨(rd_T84 l1 x16_1).f0, (rd_T84 l1 x16_1).f1, false⟩ : S68)]) l1 (l1.length : Int) (wrap64 (x16_1 + 1))) else (none)) = some r := by rw [if_neg (show ¬ (false = true) by decide)] at H; exact H
              clear H
              have H := H1
              clear H1
              by_cases c21 : x5_1.length < 4398046511104
              · rw [if_pos c21] at H
                have LMc21 := Aside0.mk c21
                clear c21
                obtain ⟨y303, hy303⟩ : ∃ y_ : List (S68), y_ = (x5_1 ++ [(⟨(rd_T84 l1 x16_1).f0, (rd_T84 l1 x16_1).f1, false⟩ : S68)]) := ⟨_, rfl⟩
                replace H : (impl_diff.l0 k1 l0 l1 y303 l1 (l1.length : Int) (wrap64 (x16_1 + 1))) = some r := by (rw [hy303]; with_reducible exact H)
                have Ny303 := Aside0.mk hy303
                clear hy303
                have H' := Aside0.mk H
                clear H
                have p295 : 0 ≤ (x16_1 : Int) := odt
                have q295 : x16_1 < (l1.length : Int) := odt
                obtain ⟨ad295, e295, hx295_0, hx295_1⟩ := at_T84 HR1.out x16_1 p295 q295
                cases e295
                replace hx295_0 := (HB.out.cell (World.block_lt_of_cell? w _ hx295_0)).trans hx295_0
                replace hx295_1 := (HB.out.cell (World.block_lt_of_cell? w _ hx295_1)).trans hx295_1
                replace p295 := eq_true p295
                replace q295 := eq_true q295
                go_wp2_with (first | ((with_reducible refine gate_dst (N := 7) rfl ?_); refine bE (N := 7) (cs := #[.string (⟨#[]⟩ : ByteArray), .int .i64 0]) (t := 84) ?_; intro gb296 hg w22 hbox hb; have n0_ := Aside0.mk (Kd.R_below (pR HO_5) hb); have n1_ := Aside0.mk (below_step (w := w) bW hb); have n2_ := Aside0.mk (hbox); have n3_ := Aside0.mk (gS (w := w) hg); have n4_ := n3_; clear HO_5; clear HB; have HO_5 := n0_; have HB := n1_; have BK296 := n2_; have GW296 := n3_; have GE296 := n4_; clear n0_ n1_ n2_ n3_ n4_; clear hb hbox hg; obtain ⟨hcz23_0, hcz23_1⟩ := cz2 BK296; obtain ⟨hfz23_0, hfz23_1⟩ := fz2 BK296) | (go_at_call 59; (with_reducible refine (impl_find.calls _ _ l0 ((rd_T84 l1 x16_1).f0) t297 false _ ?side1 ?side2 A6.out).mono ?_); (case side1 => exact Kd.C_below HR0.out bW); (case side2 => exact HC0.out); rintro e w24 ⟨rfl, hb⟩; have n0_ := Aside0.mk (Kd.R_below (by exact (Kd.R_mono (Kd.R_far (p := ⟨gb296, 1, none⟩) (Kd.R_far (p := ⟨gb296, 0, none⟩) (Kd.R_types HO_5.out BK296.out (by decide)) (fun _ hk => hk.2) (.string ((rd_T84 l1 x16_1).f0))) (fun _ hk => hk.2) (.int .i64 ((rd_T84 l1 x16_1).f1))) (fun _ h_ => h_.1))) hb); have n1_ := Aside0.mk (blk_below (g := gb296) (o := .cells #[.string ((rd_T84 l1 x16_1).f0), .int .i64 ((rd_T84 l1 x16_1).f1)] 84 (0, 0)) (by refine blk_put (cs := #[.string ((rd_T84 l1 x16_1).f0), .int .i64 0]) ?_ 1 _ rfl; refine blk_put (cs := #[.string (⟨#[]⟩ : ByteArray), .int .i64 0]) ?_ 0 _ rfl; exact BK296.out) hb); have n2_ := Aside0.mk (below_step (w := w) bW hb); clear HO_5; clear BK296; clear HB; have HO_5 := n0_; have BK296 := n1_; have HB := n2_; clear n0_ n1_ n2_; (try clear hb); obtain ⟨hcz25_0, hcz25_1⟩ := cz2 BK296; obtain ⟨hfz25_0, hfz25_1⟩ := fz2 BK296))
                repeat (go_quiet (fail); try go_wp2_with (((with_reducible refine gate_builtin (b := .append) (xs := #[.tmp 39, .tmp 45]) rfl ?_); at_builtin; refine Kd.R_append k68 (w0 := w) w.heap.size rfl (.tmp 39) (.tmp 45) 30 68 (.agg #[(.string ⟨#[]⟩), (.int .i64 0), (.bool false)]) 32 rfl Tryz.underlying30 info68 rfl (by decide) (by omega) u5 x5_1 (⟨(rd_T84 l1 x16_1).f0, (rd_T84 l1 x16_1).f1, false⟩ : S68) [.string ((rd_T84 l1 x16_1).f0), .int .i64 ((rd_T84 l1 x16_1).f1), .bool false] (fun _ => True) (fun _ => False) rfl rfl ?aP (fun _ hk => hk.elim) ?aF ?aO ?aB ?aS ?aL ?_; (case aP => exact k68_mkM _ _ _ (⟨(rd_T84 l1 x16_1).f0, (rd_T84 l1 x16_1).f1, false⟩ : S68)); (case aB => exact bW); (case aF => exact (fun _ _ => trivial)); (case aO => exact (pR HO_5)); (case aS => exact (below_size (w := w) bW)); (case aL => have := LMc21.out; omega); intro v304 w26 ho hb hg hat; rw [← Ny303.out] at ho; have n0_ := Aside0.mk (blk_grown (g := gb296) (o := .cells #[.string ((rd_T84 l1 x16_1).f0), .int .i64 ((rd_T84 l1 x16_1).f1)] 84 (0, 0)) (kB BK296) hg (Kd.R_ne HO_5.out BK296.out (by decide))); have n1_ := Aside0.mk (hb); have n2_ := Aside0.mk (ho); clear BK296; clear HB; clear HO_5; have BK296 := n0_; have HB := n1_; have HO305 := n2_; clear n0_ n1_ n2_; clear ho hb hg hat)))
                go_roundg k1
                case measure => have := HK1.out; omega
                case rel => exact ⟨(y303), (wrap64 (x16_1 + 1)), vE, H', ⟨by have := HK1.out; omega⟩, ⟨by exact HO305.out⟩, ⟨bW⟩⟩
              · rw [if_neg c21] at H
                exact absurd H (by simp)
          · rw [if_neg c5] at H
            exact absurd H (by simp)
        · rw [if_neg c4] at H
          exact absurd H (by simp)
      · rw [if_neg c3] at H
        have c3b0 : decide (x16_1 < (l1.length : Int)) = false := decide_eq_false c3
        clear c3
        have H' := Aside0.mk H
        clear H
        go_wp2
        go_loopg [5, 50] k1 (fun kq v5 v50 w' => ∃ (x5_2 : List (S68)) (x50_2 : Int), v50 = .int .i64 x50_2 ∧ Aside0 (impl_diff.l1 kq l1 x5_2 l0 (l0.length : Int) x50_2 = some r) ∧ Aside0 (kq ≤ k1) ∧ Aside0 (Kd.R k68 68 w' w.heap.size (fun _ => True) v5 x5_2) ∧ Aside0 (Below w.heap.size w w'))
        case atStart => exact ⟨(x5_1), (0), vE, H', ⟨Nat.le_refl _⟩, ⟨by exact HO_5.out⟩, ⟨bW⟩⟩
        case round =>
          clear H'
          try clear c3b0
          obtain ⟨x5_2, x50_2, rfl, HA, HK2, HO_5, HB⟩ := hrel
          cases gk with
          | zero => exact absurd HA.out (by simp [impl_diff.l1])
          | succ k2 =>
            have H := HA.out
            clear HA
            simp only [impl_diff.l1] at H
            by_cases c27 : x50_2 < (l0.length : Int)
            · rw [if_pos c27] at H
              have c27b0 : decide (x50_2 < (l0.length : Int)) = true := decide_eq_true c27
              clear c27
              by_cases c28 : 0 ≤ x50_2
              · rw [if_pos c28] at H
                have c28b0 : decide (0 ≤ x50_2) = true := decide_eq_true c28
                clear c28
                by_cases c29 : x50_2 < (l0.length : Int)
                · rw [if_pos c29] at H
                  have c29b0 : decide (x50_2 < (l0.length : Int)) = true := decide_eq_true c29
                  clear c29
                  replace H := Option.bind_eq_some_iff.mp H
                  obtain ⟨⟨t308, t309⟩, A300, H⟩ := H
                  replace H : (if t309 = true then (impl_diff.l1 k2 l1 x5_2 l0 (l0.length : Int) (wrap64 (x50_2 + 1))) else (if x5_2.length < 4398046511104 then (impl_diff.l1 k2 l1 (x5_2 ++ [(⟨(rd_T84 l0 x50_2).f0, 0, true⟩ : S68)]) l0 (l0.length : Int) (wrap64 (x50_2 + 1))) else (none))) = some r := H
                  have A30 := Aside0.mk A300
                  clear A300
                  by_cases c31 : t309 = true
                  · subst c31
                    have H1 : (impl_diff.l1 k2 l1 x5_2 l0 (l0.length : Int) (wrap64 (x50_2 + 1))) = some r := by rw [if_pos rfl] at H; exact H
                    clear H
                    have H := H1
                    clear H1
                    have H' := Aside0.mk H
                    clear H
                    have p306 : 0 ≤ (x50_2 : Int) := odt
                    have q306 : x50_2 < (l0.length : Int) := odt
                    obtain ⟨ad306, e306, hx306_0, hx306_1⟩ := at_T84 HR0.out x50_2 p306 q306
                    cases e306
                    replace hx306_0 := (HB.out.cell (World.block_lt_of_cell? w _ hx306_0)).trans hx306_0
                    replace hx306_1 := (HB.out.cell (World.block_lt_of_cell? w _ hx306_1)).trans hx306_1
                    replace p306 := eq_true p306
                    replace q306 := eq_true q306
                    go_wp2_with (first | ((with_reducible refine gate_dst (N := 11) rfl ?_); refine bE (N := 11) (cs := #[.string (⟨#[]⟩ : ByteArray), .int .i64 0]) (t := 84) ?_; intro gb307 hg w32 hbox hb; have n0_ := Aside0.mk (Kd.R_below (pR HO_5) hb); have n1_ := Aside0.mk (below_step (w := w) bW hb); have n2_ := Aside0.mk (hbox); have n3_ := Aside0.mk (gS (w := w) hg); have n4_ := n3_; clear HO_5; clear HB; have HO_5 := n0_; have HB := n1_; have BK307 := n2_; have GW307 := n3_; have GE307 := n4_; clear n0_ n1_ n2_ n3_ n4_; clear hb hbox hg; obtain ⟨hcz33_0, hcz33_1⟩ := cz2 BK307; obtain ⟨hfz33_0, hfz33_1⟩ := fz2 BK307) | (go_at_call 59; (with_reducible refine (impl_find.calls _ _ l1 ((rd_T84 l0 x50_2).f0) t308 true _ ?side1 ?side2 A30.out).mono ?_); (case side1 => exact Kd.C_below HR1.out bW); (case side2 => exact HC1.out); rintro e w34 ⟨rfl, hb⟩; have n0_ := Aside0.mk (Kd.R_below (by exact (Kd.R_mono (Kd.R_far (p := ⟨gb307, 1, none⟩) (Kd.R_far (p := ⟨gb307, 0, none⟩) (Kd.R_types HO_5.out BK307.out (by decide)) (fun _ hk => hk.2) (.string ((rd_T84 l0 x50_2).f0))) (fun _ hk => hk.2) (.int .i64 ((rd_T84 l0 x50_2).f1))) (fun _ h_ => h_.1))) hb); have n1_ := Aside0.mk (blk_below (g := gb307) (o := .cells #[.string ((rd_T84 l0 x50_2).f0), .int .i64 ((rd_T84 l0 x50_2).f1)] 84 (0, 0)) (by refine blk_put (cs := #[.string ((rd_T84 l0 x50_2).f0), .int .i64 0]) ?_ 1 _ rfl; refine blk_put (cs := #[.string (⟨#[]⟩ : ByteArray), .int .i64 0]) ?_ 0 _ rfl; exact BK307.out) hb); have n2_ := Aside0.mk (below_step (w := w) bW hb); clear HO_5; clear BK307; clear HB; have HO_5 := n0_; have BK307 := n1_; have HB := n2_; clear n0_ n1_ n2_; (try clear hb)))
                    go_roundg k2
                    case measure => have := HK1.out; have := HK2.out; omega
                    case rel => exact ⟨(x5_2), (wrap64 (x50_2 + 1)), vE, H', ⟨by have := HK1.out; have := HK2.out; omega⟩, ⟨by exact HO_5.out⟩, ⟨bW⟩⟩
                  · replace c31 := Bool.eq_false_iff.mpr c31
                    subst c31
                    have H1 : (if x5_2.length < 4398046511104 then (impl_diff.l1 k2 l1 (x5_2 ++ [(⟨(rd_T84 l0 x50_2).f0, 0, true⟩ : S68)]) l0 (l0.length : Int) (wrap64 (x50_2 + 1))) else (none)) = some r := by rw [if_neg (show ¬ (false = true) by decide)] at H; exact H
                    clear H
                    have H := H1
                    clear H1
                    by_cases c35 : x5_2.length < 4398046511104
                    · rw [if_pos c35] at H
                      have LMc35 := Aside0.mk c35
                      clear c35
                      obtain ⟨y310, hy310⟩ : ∃ y_ : List (S68), y_ = (x5_2 ++ [(⟨(rd_T84 l0 x50_2).f0, 0, true⟩ : S68)]) := ⟨_, rfl⟩
                      replace H : (impl_diff.l1 k2 l1 y310 l0 (l0.length : Int) (wrap64 (x50_2 + 1))) = some r := by (rw [hy310]; with_reducible exact H)
                      have Ny310 := Aside0.mk hy310
                      clear hy310
                      have H' := Aside0.mk H
                      clear H
                      have p306 : 0 ≤ (x50_2 : Int) := odt
                      have q306 : x50_2 < (l0.length : Int) := odt
                      obtain ⟨ad306, e306, hx306_0, hx306_1⟩ := at_T84 HR0.out x50_2 p306 q306
                      cases e306
                      replace hx306_0 := (HB.out.cell (World.block_lt_of_cell? w _ hx306_0)).trans hx306_0
                      replace hx306_1 := (HB.out.cell (World.block_lt_of_cell? w _ hx306_1)).trans hx306_1
                      replace p306 := eq_true p306
                      replace q306 := eq_true q306
                      go_wp2_with (first | ((with_reducible refine gate_dst (N := 11) rfl ?_); refine bE (N := 11) (cs := #[.string (⟨#[]⟩ : ByteArray), .int .i64 0]) (t := 84) ?_; intro gb307 hg w36 hbox hb; have n0_ := Aside0.mk (Kd.R_below (pR HO_5) hb); have n1_ := Aside0.mk (below_step (w := w) bW hb); have n2_ := Aside0.mk (hbox); have n3_ := Aside0.mk (gS (w := w) hg); have n4_ := n3_; clear HO_5; clear HB; have HO_5 := n0_; have HB := n1_; have BK307 := n2_; have GW307 := n3_; have GE307 := n4_; clear n0_ n1_ n2_ n3_ n4_; clear hb hbox hg; obtain ⟨hcz37_0, hcz37_1⟩ := cz2 BK307; obtain ⟨hfz37_0, hfz37_1⟩ := fz2 BK307) | (go_at_call 59; (with_reducible refine (impl_find.calls _ _ l1 ((rd_T84 l0 x50_2).f0) t308 false _ ?side1 ?side2 A30.out).mono ?_); (case side1 => exact Kd.C_below HR1.out bW); (case side2 => exact HC1.out); rintro e w38 ⟨rfl, hb⟩; have n0_ := Aside0.mk (Kd.R_below (by exact (Kd.R_mono (Kd.R_far (p := ⟨gb307, 1, none⟩) (Kd.R_far (p := ⟨gb307, 0, none⟩) (Kd.R_types HO_5.out BK307.out (by decide)) (fun _ hk => hk.2) (.string ((rd_T84 l0 x50_2).f0))) (fun _ hk => hk.2) (.int .i64 ((rd_T84 l0 x50_2).f1))) (fun _ h_ => h_.1))) hb); have n1_ := Aside0.mk (blk_below (g := gb307) (o := .cells #[.string ((rd_T84 l0 x50_2).f0), .int .i64 ((rd_T84 l0 x50_2).f1)] 84 (0, 0)) (by refine blk_put (cs := #[.string ((rd_T84 l0 x50_2).f0), .int .i64 0]) ?_ 1 _ rfl; refine blk_put (cs := #[.string (⟨#[]⟩ : ByteArray), .int .i64 0]) ?_ 0 _ rfl; exact BK307.out) hb); have n2_ := Aside0.mk (below_step (w := w) bW hb); clear HO_5; clear BK307; clear HB; have HO_5 := n0_; have BK307 := n1_; have HB := n2_; clear n0_ n1_ n2_; (try clear hb); obtain ⟨hcz39_0, hcz39_1⟩ := cz2 BK307; obtain ⟨hfz39_0, hfz39_1⟩ := fz2 BK307) | ((with_reducible refine gate_builtin (b := .append) (xs := #[.tmp 63, .tmp 67]) rfl ?_); at_builtin; refine Kd.R_append k68 (w0 := w) w.heap.size rfl (.tmp 63) (.tmp 67) 30 68 (.agg #[(.string ⟨#[]⟩), (.int .i64 0), (.bool false)]) 32 rfl Tryz.underlying30 info68 rfl (by decide) (by omega) u5 x5_2 (⟨(rd_T84 l0 x50_2).f0, 0, true⟩ : S68) [.string ((rd_T84 l0 x50_2).f0), .int .i64 0, .bool true] (fun _ => True) (fun _ => False) rfl rfl ?aP (fun _ hk => hk.elim) ?aF ?aO ?aB ?aS ?aL ?_; (case aP => exact k68_mkM _ _ _ (⟨(rd_T84 l0 x50_2).f0, 0, true⟩ : S68)); (case aB => exact bW); (case aF => exact (fun _ _ => trivial)); (case aO => exact (pR HO_5)); (case aS => exact (below_size (w := w) bW)); (case aL => have := LMc35.out; omega); intro v311 w40 ho hb hg hat; rw [← Ny310.out] at ho; have n0_ := Aside0.mk (blk_grown (g := gb307) (o := .cells #[.string ((rd_T84 l0 x50_2).f0), .int .i64 ((rd_T84 l0 x50_2).f1)] 84 (0, 0)) (kB BK307) hg (Kd.R_ne HO_5.out BK307.out (by decide))); have n1_ := Aside0.mk (hb); have n2_ := Aside0.mk (ho); clear BK307; clear HB; clear HO_5; have BK307 := n0_; have HB := n1_; have HO312 := n2_; clear n0_ n1_ n2_; clear ho hb hg hat))
                      go_roundg k2
                      case measure => have := HK1.out; have := HK2.out; omega
                      case rel => exact ⟨(y310), (wrap64 (x50_2 + 1)), vE, H', ⟨by have := HK1.out; have := HK2.out; omega⟩, ⟨by exact HO312.out⟩, ⟨bW⟩⟩
                    · rw [if_neg c35] at H
                      exact absurd H (by simp)
                · rw [if_neg c29] at H
                  exact absurd H (by simp)
              · rw [if_neg c28] at H
                exact absurd H (by simp)
            · rw [if_neg c27] at H
              have c27b0 : decide (x50_2 < (l0.length : Int)) = false := decide_eq_false c27
              clear c27
              replace H := Option.bind_eq_some_iff.mp H
              obtain ⟨t313, A410, H⟩ := H
              replace H : (some t313) = some r := H
              have A41 := Aside0.mk A410
              clear A410
              obtain rfl := Option.some.inj H
              obtain ⟨Ao42, co42, eo42⟩ := Kd.R_slice HO_5.out
              subst eo42
              go_wp2_with ((go_at_call 60; (with_reducible refine (sort_Edit.calls (fun k_ => some k_ = (.slice Ao42 x5_2.length co42 : Value).ownBlock) (.slice Ao42 x5_2.length co42) x5_2 t313 w _ ?side1 ?side2 A41.out).mono ?_); (case side1 => repeat ((with_reducible exact HB.out))); (case side2 => exact Kd.R_tight rfl HO_5.out); rintro e w43 ⟨rfl, hy0, hb, hkp⟩; have n0_ := Aside0.mk (Kd.R_reok rfl hy0 (fun k_ e_ => HO_5.out.1 k_ e_)); have n1_ := Aside0.mk (hb); clear HO_5; clear HB; have HO_5 := n0_; have HB := n1_; clear n0_ n1_; (try clear hb); (try clear hkp); (try clear hy0)))
              go_ret
              exact ⟨_, by rfl, by exact HO_5.out, bW⟩
end Go.Proofs.YtblejbgkcgajgaaGreat.Q
end

section
namespace Go.Proofs.YtblejbgkcgajgaaGreat.Q
open Go.RowKit Go.Proofs.YtblejbgkcgajgaaGreatW.PrintWords Go.Proofs.YtblejbgkcgajgaaGreatW.PrintLast Go.Proofs.YtblejbgkcgajgaaGreatW.PrintMore
attribute [local go_sem] max2_int min2_int max_two min_two max_three min_three max_four min_four   -- for this text's walks alone
set_option linter.unusedVariables false
set_option linter.unusedSimpArgs false
attribute [local go_sem] bin_leq bin_gtr bin_geq
def impl_limited.f (l0 : List (S84)) : Option ((List (S84)) × Int) := if (l0.length : Int) > 12 then (some (([] : List (S84)), 7)) else (some (l0, 0))
set_option maxHeartbeats 8000000 in
set_option maxRecDepth 100000 in
theorem impl_limited.calls (P0_ : Nat → Prop) (u9000_ : Value) (l0 : List (S84)) (r1 : List (S84)) (r2 : Int) (w0 w : World) (hB : Below w0.heap.size w0 w) (ho0 : Kd.R k84 84 w w0.heap.size P0_ u9000_ l0) (h : impl_limited.f l0 = some (r1, r2)) :
    Calls Tryz.prog 102 #[u9000_] w fun e w' => ∃ v0_ : Value, e = .returned (.tuple #[v0_, .int .i64 r2]) ∧ Kd.R k84 84 w' w0.heap.size (fun k_ => (P0_ k_ ∨ w.heap.size ≤ k_)) v0_ r1 ∧ Below w0.heap.size w0 w' ∧ Kept w w' (fun k_ => P0_ k_) := by
  have HO0 := Aside0.mk (show Kd.R k84 84 w w0.heap.size (fun k_ => (P0_ k_ ∨ w.heap.size ≤ k_)) u9000_ l0 from Kd.R_mono ho0 (fun k_ hk => (.inl hk)))
  have HK := Aside0.mk (Kept.refl w (fun k_ => P0_ k_))
  have HW0 := Aside0.mk hB.size
  have HB := Aside0.mk hB
  clear hB
  have H : (if (l0.length : Int) > 12 then (some (([] : List (S84)), 7)) else (some (l0, 0))) = some (r1, r2) := h
  clear h
  by_cases c2 : (l0.length : Int) > 12
  · rw [if_pos c2] at H
    have c2b0 : decide (12 < (l0.length : Int)) = true := decide_eq_true c2
    have c2b1 : decide (12 < l0.length) = true := decide_eq_true (by omega)
    clear c2
    simp only [Option.some.injEq, Prod.mk.injEq] at H
    obtain ⟨rfl, rfl⟩ := H
    obtain ⟨Ao3, co3, eo3⟩ := Kd.R_slice HO0.out
    subst eo3
    go_enter Tryz.func102, Tryz.ntmps102
    go_wp2
    go_ret2
    exact ⟨_, by first | rfl | (simp [errW_none, errW_some] <;> rfl) | (simp [*, errW_none, errW_some] <;> rfl), by first | exact Kd.R_nil _ _ _ _ _ | exact Kd.N_nil _ _ _ _ _ | exact Kd.V_nil _ _ _ _ _ | exact Kd.Q_nil _ _ _ _ _ | exact Kd.S_nil _ _ _ _ _, by repeat (first | (with_reducible first | exact HB.out | apply below_alloc | apply pw_below_drewN | apply below_drew1) | exact HB.out), by repeat (first | (with_reducible first | exact HK.out | apply Kept.alloc | apply Kept.drewN | apply Kept.drew) | exact HK.out)⟩
  · rw [if_neg c2] at H
    have c2b0 : decide (12 < (l0.length : Int)) = false := decide_eq_false c2
    have c2b1 : decide (12 < l0.length) = false := decide_eq_false (by omega)
    clear c2
    simp only [Option.some.injEq, Prod.mk.injEq] at H
    obtain ⟨rfl, rfl⟩ := H
    obtain ⟨Ao4, co4, eo4⟩ := Kd.R_slice HO0.out
    subst eo4
    go_enter Tryz.func102, Tryz.ntmps102
    go_wp2
    go_ret2
    exact ⟨_, by first | rfl | (simp [errW_none, errW_some] <;> rfl) | (simp [*, errW_none, errW_some] <;> rfl), by (with_reducible repeat (first | apply Kd.R_alloc | apply Kd.R_drewN | apply Kd.R_drew)); exact HO0.out, by repeat (first | (with_reducible first | exact HB.out | apply below_alloc | apply pw_below_drewN | apply below_drew1) | exact HB.out), by repeat (first | (with_reducible first | exact HK.out | apply Kept.alloc | apply Kept.drewN | apply Kept.drew) | exact HK.out)⟩
end Go.Proofs.YtblejbgkcgajgaaGreat.Q
end

section
namespace Go.Proofs.YtblejbgkcgajgaaGreat.Q
open Go.RowKit Go.Proofs.YtblejbgkcgajgaaGreatW.PrintWords Go.Proofs.YtblejbgkcgajgaaGreatW.PrintLast Go.Proofs.YtblejbgkcgajgaaGreatW.PrintMore
attribute [local go_sem] max2_int min2_int max_two min_two max_three min_three max_four min_four   -- for this text's walks alone
set_option linter.unusedVariables false
set_option linter.unusedSimpArgs false
attribute [local go_sem] bin_leq bin_gtr bin_geq
theorem eqnil_ {P : Program} (w : World) (t e : TypeId) (a : Option Addr) (n c : Nat) (h : P.underlying t = some (.slice e)) : (binOp .eql t (.slice a n c) (.slice none 0 0)).run P w = .ok (.bool a.isNone) w := Lib.run_eql_slice_nil w t e a n c 0 0 h
end Go.Proofs.YtblejbgkcgajgaaGreat.Q
end

section
namespace Go.Proofs.YtblejbgkcgajgaaGreat.Q
open Go.RowKit Go.Proofs.YtblejbgkcgajgaaGreatW.PrintWords Go.Proofs.YtblejbgkcgajgaaGreatW.PrintLast Go.Proofs.YtblejbgkcgajgaaGreatW.PrintMore
attribute [local go_sem] max2_int min2_int max_two min_two max_three min_three max_four min_four   -- for this text's walks alone
set_option linter.unusedVariables false
set_option linter.unusedSimpArgs false
attribute [local go_sem] bin_leq bin_gtr bin_geq
def impl_Entry_124.f (l0 : List (S84)) : Option ((List (S84))) := if l0.length < 5864062014805 then some l0 else none
set_option maxHeartbeats 8000000 in
set_option maxRecDepth 100000 in
theorem impl_Entry_124.calls (A0 : Option Addr) (c0 : Nat) (l0 : List (S84)) (r : List (S84)) (w : World) (hr0 : Kd.C k84 w A0 l0.length l0) (hc0 : l0.length ≤ c0) (h : impl_Entry_124.f l0 = some r) :
    Calls Tryz.prog 124 #[.slice A0 l0.length c0] w fun e w' => ∃ v0_ : Value, e = .returned (v0_) ∧ Kd.R k84 84 w' w.heap.size (fun _ => True) v0_ r ∧ Below w.heap.size w w' := by
  by_cases c5 : l0.length < 5864062014805
  · unfold impl_Entry_124.f at h
    rw [if_pos c5] at h
    obtain rfl := Option.some.inj h
    clear h
    cases A0 with
    | none =>
      have hz : l0 = [] := by
        rcases Nat.eq_zero_or_pos l0.length with h0 | h0
        · exact List.eq_nil_of_length_eq_zero h0
        · obtain ⟨ad, e, _⟩ := hr0.2.2 h0
          cases e
      subst hz
      clear hr0 c5
      have hq := fun w : World => eqnil_ (P := Tryz.prog) w 46 84 none 0 c0 Tryz.underlying46
      go_enter Tryz.func124, Tryz.ntmps124
      go_wp2
      go_ret
      exact ⟨_, rfl, Kd.R_nil _ _ _ _ _, Below.refl _ _⟩
    | some ad =>
      have HR0 := Aside0.mk hr0
      have HC0 := Aside0.mk hc0
      have LM := Aside0.mk c5
      clear hr0 hc0 c5
      have HB := Aside0.mk (Below.refl w.heap.size w)
      have hq := fun w : World => eqnil_ (P := Tryz.prog) w 46 84 (some ad) l0.length c0 Tryz.underlying46
      go_enter Tryz.func124, Tryz.ntmps124
      go_wp2_with (first | ((with_reducible refine gate_dst (N := 5) rfl ?_); refine Kd.R_lit k84 _ 84 ?hg (N := 5) ?hd (xs := ([] : List (S84))) (inner := []) (ok := fun _ => True) (okp := fun _ => True) ?hr ?hp (fun _ hk => hk) trivial (Below.refl _ _) (Nat.le_refl _) (by simp) ?_; (case hd => rfl); (case hg => rfl); (case hr => first | (go_simp; done) | (go_simp; rfl)); (case hp => exact (Reps.none _ _)); intro v881 w11 ho12 hb hg_ hnew_; clear hg_ hnew_; have n0_ := Aside0.mk (Kd.R_lower ho12 (below_size HB.out)); have n1_ := Aside0.mk (below_step HB.out hb); clear HB; have HO882 := n0_; have HB := n1_; clear n0_ n1_; clear hb ho12) | ((with_reducible refine gate_builtin (b := .append) (xs := #[.tmp 5, .tmp 6]) rfl ?_); at_builtin; refine Kd.R_append_rows k84 (w0 := w) w.heap.size rfl (.tmp 5) (.tmp 6) 46 84 (.agg #[(.string ⟨#[]⟩), (.int .i64 0)]) 24 rfl Tryz.underlying46 info84 rfl (by decide) (by omega) v881 [] l0 _ _ _ (fun _ => True) (fun _ => False) rfl rfl ?aO ?aR (fun _ _ h => h) (fun _ h => h.elim) ?aF ?aB ?aS ?aL ?_; (case aR => exact (Kd.C_below HR0.out HB.out)); (case aB => exact HB.out); (case aF => exact (fun _ _ => trivial)); (case aO => exact HO882.out); (case aS => exact (below_size HB.out)); (case aL => have := LM.out; simp only [List.length_nil]; omega); intro v884 w13 ho hb hg hat; rw [List.nil_append] at ho; have n0_ := Aside0.mk (hb); have n1_ := Aside0.mk (ho); clear HB; clear HO882; have HB := n0_; have HO885 := n1_; clear n0_ n1_; clear ho hb hg hat))
      go_ret
      exact ⟨_, rfl, HO885.out, HB.out⟩
  · unfold impl_Entry_124.f at h
    rw [if_neg c5] at h
    cases h
end Go.Proofs.YtblejbgkcgajgaaGreat.Q
end

section
namespace Go.Proofs.YtblejbgkcgajgaaGreat.Q
open Go.RowKit Go.Proofs.YtblejbgkcgajgaaGreatW.PrintWords Go.Proofs.YtblejbgkcgajgaaGreatW.PrintLast Go.Proofs.YtblejbgkcgajgaaGreatW.PrintMore
attribute [local go_sem] max2_int min2_int max_two min_two max_three min_three max_four min_four   -- for this text's walks alone
set_option linter.unusedVariables false
set_option linter.unusedSimpArgs false
attribute [local go_sem] bin_leq bin_gtr bin_geq
def impl_Entry_125.f (l0 : List S84) (a1 a2 : Int) : Option (List S84) := if 0 ≤ a1 then (if a2 = a1 + 1 then (if a1 < (l0.length : Int) then some (l0.take a1.toNat ++ l0.drop (a1.toNat + 1)) else none) else none) else none
set_option maxHeartbeats 8000000 in
set_option maxRecDepth 100000 in
theorem impl_Entry_125.calls (P0_ : Nat → Prop) (u9000_ : Value) (l0 : List (S84)) (a1 : Int) (a2 : Int) (r : List (S84)) (w0 w : World) (hB : Below w0.heap.size w0 w) (ho0 : Kd.R k84 84 w w0.heap.size P0_ u9000_ l0) (h : impl_Entry_125.f l0 a1 a2 = some r) :
    Calls Tryz.prog 125 #[u9000_, .int .i64 a1, .int .i64 a2] w fun e w' => ∃ v0_ : Value, e = .returned (v0_) ∧ Kd.R k84 84 w' w0.heap.size (fun k_ => (P0_ k_ ∨ w.heap.size ≤ k_)) v0_ r ∧ Below w0.heap.size w0 w' ∧ Kept w w' (fun k_ => P0_ k_) := by
  unfold impl_Entry_125.f at h
  by_cases h0 : 0 ≤ a1
  case neg => rw [if_neg h0] at h; cases h
  rw [if_pos h0] at h
  by_cases h1 : a2 = a1 + 1
  case neg => rw [if_neg h1] at h; cases h
  rw [if_pos h1] at h
  by_cases h2 : a1 < (l0.length : Int)
  case neg => rw [if_neg h2] at h; cases h
  rw [if_pos h2] at h
  obtain rfl := Option.some.inj h
  clear h
  obtain ⟨i, rfl⟩ : ∃ i : Nat, a1 = (i : Int) := ⟨a1.toNat, by omega⟩
  obtain ⟨j, rfl⟩ : ∃ j : Nat, a2 = (j : Int) := ⟨a2.toNat, by omega⟩
  have hj0 : j = i + 1 := by omega
  rw [Int.toNat_natCast]
  obtain ⟨n, hn0⟩ : ∃ n, n = l0.length := ⟨_, rfl⟩
  obtain ⟨g, cap, cur, rfl, hbg, hok, hg, hn, hm, hs, ht⟩ := flatR_open (enc := encE) entM encE_len rfl ho0 (by omega)
  clear ho0 h0 h1
  rw [← hn0] at hn ht h2 ⊢
  have hin : i < n := by omega
  clear h2
  unfold maxLen at hm
  obtain ⟨news, hnews⟩ : ∃ news, news = (l0.drop j).flatMap encE := ⟨_, rfl⟩
  have hlen : news.length = (n - j) * 2 := by rw [hnews, flat_len encE_len, List.length_drop, hn0]
  have hcell : ∀ q v, cur[q]? = some v → w.cell? ⟨g, q, none⟩ = some v := fun q v hq => (blk_cell hg q).trans hq
  have hnew : ∀ t u, news[t]? = some u → cur[j * 2 + t]? = some u := by
    intro t u hu
    have htl : t < (n - j) * 2 := by
      have := (List.getElem?_eq_some_iff.1 hu).1
      rwa [hlen] at this
    rw [hnews, ← flat_drop encE_len, List.getElem?_drop, ← ht, List.getElem?_take, if_pos (by omega)] at hu
    simpa using hu
  obtain ⟨A, hA, hsrc⟩ : ∃ A : Addr, (if cap = j then some (⟨g, 0, none⟩ : Addr) else some ⟨g, j * 2, none⟩) = some A ∧ Hid (∀ t u, news[t]? = some u → w.drew.cell? (A.add t) = some u) := by
    by_cases h : cap = j
    · refine ⟨⟨g, 0, none⟩, by simp [h], fun t u hu => ?_⟩
      have h0 : news.length = 0 := by rw [hlen]; omega
      rw [List.length_eq_zero_iff.1 h0] at hu
      simp at hu
    · refine ⟨⟨g, j * 2, none⟩, by simp [h], fun t u hu => ?_⟩
      rw [Addr.add_lit]
      exact hcell _ _ (hnew t u hu)
  have hcs : cur.size = cap * 2 := hs
  have s1 : Hid (news.length = (n - j) * 2) := hlen
  have s2 : Hid (∀ u ∈ news, u.oneCell' = true) := by
    rw [hnews]
    exact one_flat _
  have s3 : Hid (∀ t, t < news.length → (w.drew.cell? ⟨g, 0 + i * 2 + t, none⟩).isSome = true ∧ w.drew.frozen? ⟨g, 0 + i * 2 + t, none⟩ = false) := by
    intro t htl
    rw [hlen] at htl
    have hb : 0 + i * 2 + t < cur.size := by rw [hcs]; omega
    refine ⟨?_, blk_frozen (w := w.drew) hg _⟩
    show (w.cell? _).isSome = true
    rw [hcell _ _ (Array.getElem?_eq_getElem hb)]
    rfl
  obtain ⟨cur1, hcur1⟩ : ∃ cur1 : Array Value, cur1 = (cur.toList.take (0 + i * 2) ++ news ++ cur.toList.drop (0 + i * 2 + news.length)).toArray := ⟨_, rfl⟩
  have hc1s : cur1.size = cap * 2 := by
    rw [hcur1]
    simp [hlen, hcs]
    omega
  obtain ⟨W1, hW1⟩ : ∃ W1, W1 = w.drew.setCells g (0 + i * 2) news := ⟨_, rfl⟩
  have hW1' : W1 = w.drew.setRow g cur1 := by
    rw [hW1, hcur1]
    exact setCells_setRow g (0 + i * 2) _ news cur w.drew hg (by rw [hlen, hcs]; omega)
  have hg1 : W1.heap[g]? = some (.cells cur1 84 (0, 0)) := by
    rw [hW1']
    exact setRow_heap w.drew g cur cur1 _ _ hg
  obtain ⟨zs, hzs⟩ : ∃ zs, zs = (Builtin.zeroCells (Value.agg #[.string ⟨#[]⟩, .int .i64 0]).cells (n - (i + (n - j)))).toList := ⟨_, rfl⟩
  have hn1 : n - (i + (n - j)) = 1 := by omega
  have hz2 : zs = [.string ⟨#[]⟩, .int .i64 0] := by rw [hzs, hn1, zc1]
  have hzl : zs.length = 2 := by rw [hz2]; rfl
  have hcl : ∀ ty, (Builtin.clear_ #[46] ty #[.slice (some ⟨g, (i + (n - j)) * 2, none⟩) (n - (i + (n - j))) (cap - (i + (n - j)))]).run Tryz.prog W1 = .ok (.tuple #[]) (W1.setRow g (cur1.toList.take ((i + (n - j)) * 2) ++ zs ++ cur1.toList.drop ((i + (n - j)) * 2 + zs.length)).toArray) := fun ty => by
    have h := run_clear_rowk (P := Tryz.prog) W1 46 84 ty (.agg #[.string ⟨#[]⟩, .int .i64 0]) (n - (i + (n - j))) Tryz.underlying46 Tryz.zeroValue84 (by rw [← hzs, hz2]; intro u hu; simp at hu; rcases hu with rfl | rfl <;> rfl) g ((i + (n - j)) * 2) (cap - (i + (n - j))) cur1 84 (by omega) hg1 (by rw [← hzs, hzl, hc1s]; omega)
    rw [← hzs] at h
    exact h
  obtain ⟨i0, hi0, hzz⟩ := Option.map_eq_some_iff.1 info84
  simp only [Prod.mk.injEq] at hzz
  obtain ⟨_, hz1, _⟩ := hzz
  have hout : (cur1.toList.take ((i + (n - j)) * 2) ++ zs ++ cur1.toList.drop ((i + (n - j)) * 2 + zs.length)).toArray.toList.take ((i + (n - j)) * 2) = (l0.take i ++ l0.drop (i + 1)).flatMap encE := by
    have e1 : (cur.toList.take (i * 2)) = (l0.take i).flatMap encE := by
      rw [← flat_take encE_len, ← ht, List.take_take, Nat.min_eq_left (by omega)]
    have e2 : ((l0.take i).flatMap encE).length = i * 2 := by rw [flat_len encE_len, List.length_take]; omega
    rw [List.toList_toArray, List.append_assoc, List.take_append_of_le_length (by rw [List.length_take, Array.length_toList, hc1s]; omega), List.take_take, Nat.min_self, hcur1, List.toList_toArray, Nat.zero_add, e1, List.take_append_of_le_length (by rw [List.length_append, e2, hlen]; omega), List.take_of_length_le (by rw [List.length_append, e2, hlen]; omega), List.flatMap_append, hnews, hj0]
  have X := Aside0.mk hW1'
  have hW : Hid (W1 = w.drew.setCells g (0 + i * 2) news) := hW1
  have HG1 := Aside0.mk hg1
  have HOUT := Aside0.mk hout
  have HB := Aside0.mk hB
  have HN0 := Aside0.mk hn0
  have HC1 := Aside0.mk hc1s
  have hij : i ≤ j := by omega
  have hne : ¬ (i = j) := by omega
  have hjn : j ≤ n := by omega
  have hic : i ≤ cap := by omega
  have hjc : j ≤ cap := by omega
  have hcn : ¬ (cap = i + (n - j)) := by omega
  have hln : i + (n - j) ≤ n := by omega
  have hlc : i + (n - j) ≤ cap := by omega
  have HJ := Aside0.mk hj0
  have HL := Aside0.mk hzl
  clear hz2 hW1 hW1' hg1 hg hcell hnew hnews hlen hcs hs ht hcur1 hc1s hzs hn1 hzl hout hB hn0 hj0
  go_enter Tryz.func125, Tryz.ntmps125
  go_wp2_with fail
  go_region_law (refine step_append_room rfl (.tmp 22) (.tmp 25) 46 rfl 84 i0 2 Tryz.underlying46 hi0 hz1 g 0 i cap (by simp [Act.eval, Act.put]) A (n - j) (cap - j) news (by simp [Act.eval, Act.put]) s1.out hsrc.out s2.out (by omega) s3.out ?_; rw [← hW.out])
  go_wp2
  go_ret
  refine ⟨_, rfl, ?_, ?_, ?_⟩
  · refine flatR_mk entM encE_len rfl ?_ hbg (.inl hok) (setRow_heap W1 g cur1 _ _ _ HG1.out) (by omega) (by unfold maxLen; omega) ?_ (by have h_ := HOUT.out; simp only [List.append_assoc, List.toList_toArray] at h_ ⊢; exact h_)
    · have h1 := HN0.out
      have h2 := HJ.out
      rw [List.length_append, List.length_take, List.length_drop]
      omega
    · have h1 := HC1.out
      have h2 := HL.out
      simp only [List.size_toArray, List.length_append, List.length_take, List.length_drop, Array.length_toList]
      omega
  · rw [X.out]
    exact below_setRow (below_setRow (below_drew HB.out) hbg _) hbg _
  · rw [X.out]
    exact kept_setRow (kept_setRow (Kept.drew (Kept.refl w _)) (.inl hok) _) (.inl hok) _
end Go.Proofs.YtblejbgkcgajgaaGreat.Q
end

section
namespace Go.Proofs.YtblejbgkcgajgaaGreat.Q
open Go.RowKit Go.Proofs.YtblejbgkcgajgaaGreatW.PrintWords Go.Proofs.YtblejbgkcgajgaaGreatW.PrintLast Go.Proofs.YtblejbgkcgajgaaGreatW.PrintMore
attribute [local go_sem] max2_int min2_int max_two min_two max_three min_three max_four min_four   -- for this text's walks alone
set_option linter.unusedVariables false
set_option linter.unusedSimpArgs false
attribute [local go_sem] bin_leq bin_gtr bin_geq
def impl_Entry_126.f (l0 : List S84) (a1 : Int) (l2 : List S84) : Option (List S84) := match l2 with
  | [x] => if 0 ≤ a1 then (if a1 ≤ (l0.length : Int) then (if l0.length < 5000000 then some (l0.take a1.toNat ++ [x] ++ l0.drop a1.toNat) else none) else none) else none
  | _ => none
set_option maxHeartbeats 8000000 in
set_option maxRecDepth 100000 in
theorem impl_Entry_126.atEnd (l0 l2 : List S84) (w0 w : World) (P0_ P2_ : Nat → Prop) (v : Value) (g2 c2 : Nat) (hB : Below w0.heap.size w0 w) (ho0 : Kd.R k84 84 w w0.heap.size P0_ v l0) (hl2 : l2.length = 1) (hC2 : Kd.C k84 w (some ⟨g2, 0, none⟩) 1 l2) (hlen : l0.length < 5000000) :
    Calls Tryz.prog 126 #[v, .int .i64 (l0.length : Int), .slice (some ⟨g2, 0, none⟩) 1 c2] w fun e w' => ∃ v0_ : Value, e = .returned v0_ ∧ Kd.R k84 84 w' w0.heap.size (fun k_ => (P0_ k_ ∨ P2_ k_ ∨ w.heap.size ≤ k_)) v0_ (l0 ++ l2) ∧ Below w0.heap.size w0 w' ∧ Kept w w' (fun k_ => P0_ k_ ∨ P2_ k_) := by
  have HO := Aside0.mk (Kd.R_mono (ok' := fun k_ => (P0_ k_ ∨ P2_ k_ ∨ w.heap.size ≤ k_)) ho0 (fun k hk => .inl hk))
  have HB := Aside0.mk hB
  have H1 := Aside0.mk ho0.1
  have HC := Aside0.mk hC2
  obtain ⟨A0, c0, rfl⟩ := Kd.R_slice ho0
  have hnc : l0.length ≤ c0 := (Kd.R_reads' ho0).2.1
  obtain ⟨n, hn⟩ : ∃ n, n = l0.length := ⟨_, rfl⟩
  have HN := Aside0.mk hn
  rw [← hn] at HO H1 hnc hlen ⊢
  have hin : (n : Int) ≤ (n : Int) := Int.le_refl _
  have hm0 : ¬ ((1 : Nat) : Int) = 0 := by decide
  clear hB ho0 hC2 hn
  go_enter Tryz.func126, Tryz.ntmps126
  go_wp2_with (at_builtin; refine Kd.R_append_rows k84 (w0 := w0) w0.heap.size rfl (.tmp 23) (.tmp 24) 46 84 (.agg #[(.string ⟨#[]⟩), (.int .i64 0)]) 24 rfl Tryz.underlying46 info84 rfl (by decide) (by omega) (.slice A0 n c0) l0 l2 (some ⟨g2, 0, none⟩) 1 c2 (fun k_ => (P0_ k_ ∨ P2_ k_ ∨ w.heap.size ≤ k_)) (fun _ => False) rfl rfl HO.out HC.out (fun x cs hK => by rw [k84_open hK]; exact k84_mkM _ _ _ x) (fun _ h => h.elim) (fun k hk => .inr (.inr hk)) HB.out (below_size HB.out) (by rw [← HN.out]; omega) ?_; intro v1 w1 hr hb hg _; have HR1 := Aside0.mk hr; have HB1 := Aside0.mk hb; have HG1 := Aside0.mk hg; clear hr hb hg)
  all_goals
    go_ret
    refine ⟨_, rfl, HR1.out, HB1.out, ⟨HG1.out.size, fun k hk hn2 => HG1.out.block k hk (fun e => hn2 (.inl (H1.out k e.symm)))⟩⟩
set_option maxHeartbeats 8000000 in
set_option maxRecDepth 100000 in
theorem impl_Entry_126.shift (l0 : List S84) (x : S84) (w0 w : World) (P0_ P2_ : Nat → Prop) (g cap g2 cap2 i n m j k : Nat) (cur cur2 : Array Value) (hB : Below w0.heap.size w0 w) (hbg : w0.heap.size ≤ g) (hok : P0_ g) (hne : g2 ≠ g)
    (hg : w.heap[g]? = some (.cells cur 84 (0, 0))) (hm : cap ≤ maxLen) (hs : cur.size = cap * 2) (ht : cur.toList.take (n * 2) = l0.flatMap encE)
    (hg2 : w.heap[g2]? = some (.cells cur2 84 (0, 0))) (hs2 : cur2.size = cap2 * 2) (hmc : m ≤ cap2) (ht2 : cur2.toList.take (m * 2) = encE x)
    (hn : n = l0.length) (hm1 : m = 1) (hi : i < n) (hnc : n ≤ cap) (hj : j = i + m) (hk : k = n + m) (h50 : n < 5000000) (hroom : k ≤ cap) :
    Calls Tryz.prog 126 #[.slice (some ⟨g, 0, none⟩) n cap, .int .i64 (i : Int), .slice (some ⟨g2, 0, none⟩) m cap2] w fun e w' => ∃ v0_ : Value, e = .returned v0_ ∧ Kd.R k84 84 w' w0.heap.size (fun k_ => (P0_ k_ ∨ P2_ k_ ∨ w.heap.size ≤ k_)) v0_ (l0.take i ++ [x] ++ l0.drop i) ∧ Below w0.heap.size w0 w' ∧ Kept w w' (fun k_ => P0_ k_ ∨ P2_ k_) := by
  unfold maxLen at hm
  obtain ⟨i0, hi0, hzz⟩ := Option.map_eq_some_iff.1 info84
  simp only [Prod.mk.injEq] at hzz
  obtain ⟨hz0, hz1, hzb⟩ := hzz
  have hsz : (Tryz.prog.info? 84).map (·.size) = some 2 := by rw [hi0]; simp [hz1]
  have hso : ∀ w, (Go.sizeOf 84).run Tryz.prog w = .ok 2 w := fun w => by simp [Go.sizeOf, typeInfo, hi0, hz1]
  obtain ⟨cs1, hcs1⟩ : ∃ cs1, cs1 = (l0.drop i).flatMap encE := ⟨_, rfl⟩
  have hc1 : cs1.length = (n - i) * 2 := by rw [hcs1, flat_len encE_len, List.length_drop, hn]
  have hsrc : ∀ (t : Nat) (u : Value), cs1[t]? = some u → cur[i * 2 + t]? = some u := by
    intro t u hu
    have htl : t < (n - i) * 2 := by
      have := (List.getElem?_eq_some_iff.1 hu).1
      rwa [hc1] at this
    rw [hcs1, ← flat_drop encE_len, List.getElem?_drop, ← ht, List.getElem?_take, if_pos (by omega)] at hu
    simpa using hu
  have hsrc2 : ∀ (t : Nat) (u : Value), (encE x)[t]? = some u → cur2[t]? = some u := by
    intro t u hu
    have htl : t < 2 := (List.getElem?_eq_some_iff.1 hu).1
    rw [← ht2, List.getElem?_take, if_pos (by omega)] at hu
    simpa using hu
  have one_e : ∀ u ∈ encE x, u.oneCell' = true := by
    intro u hu
    have := one_flat [x] u (by rw [List.flatMap_cons, List.flatMap_nil, List.append_nil]; exact hu)
    exact this
  have hz1' : ¬ ((m : Int) = 0) := by omega
  have hz2 : ¬ ((i : Int) = (n : Int)) := by omega
  have hin : i ≤ n := by omega
  have hic : i ≤ cap := by omega
  have hik : i ≤ k := by omega
  have hjk : j ≤ k := by omega
  have hci : ¬ (cap = i) := by omega
  have hci' : ¬ ((cap : Int) = (i : Int)) := by omega
  have e1 : (cur.toList.take (i * 2)) = (l0.take i).flatMap encE := by
    rw [← flat_take encE_len, ← ht, List.take_take, Nat.min_eq_left (by omega)]
  have e2 : (l0.take i).flatMap encE ++ encE x ++ cs1 = (l0.take i ++ [x] ++ l0.drop i).flatMap encE := by
    rw [hcs1, List.flatMap_append, List.flatMap_append, List.flatMap_cons, List.flatMap_nil, List.append_nil]
  have e3 : (l0.take i ++ [x] ++ l0.drop i).length = k := by
    simp only [List.length_append, List.length_take, List.length_drop, List.length_cons, List.length_nil]
    omega
  have hov : ∀ lb cb, (callFunc 138 #[.slice (some ⟨g2, 0, none⟩) m cap2, .slice (some ⟨g, j * 2, none⟩) lb cb]).run Tryz.prog w = .ok (.value (.bool false)) w := fun lb cb => by
    rw [run_callFunc_extern Tryz.func138 (by kernel_rfl) (by kernel_rfl) (by kernel_rfl) (e := Extern.SlicesOverlaps.overlaps #[46, 46] #[4]) (by kernel_rfl),
      Lib.run_overlaps_apart w 46 4 84 Tryz.underlying46 2 hso ⟨g2, 0, none⟩ ⟨g, j * 2, none⟩ m cap2 lb cb hne 84 84 cur2.size cur.size (by simp [World.shape?, hg2]) (by simp [World.shape?, hg]) (by omega) (blk_frozen hg2 _) (blk_frozen hg2 _)]
    rfl
  obtain ⟨cur1, hcur1⟩ : ∃ cur1 : Array Value, cur1 = (cur.toList.take (j * 2) ++ cs1 ++ cur.toList.drop (j * 2 + cs1.length)).toArray := ⟨_, rfl⟩
  have hc1s : cur1.size = cap * 2 := by
    rw [hcur1]
    simp only [List.size_toArray, List.length_append, List.length_take, List.length_drop, Array.length_toList, hc1, hs]
    omega
  obtain ⟨W1, hW1⟩ : ∃ W1, W1 = w.drew.setRow g cur1 := ⟨_, rfl⟩
  have hg1 : W1.heap[g]? = some (.cells cur1 84 (0, 0)) := by rw [hW1]; exact setRow_heap w.drew g cur cur1 _ _ hg
  have hg21 : W1.heap[g2]? = some (.cells cur2 84 (0, 0)) := by rw [hW1, setRow_other w.drew g g2 cur1 hne]; exact hg2
  have hcp1 : Aside0 (∀ ty, (Builtin.copy_ #[46, 46] ty #[.slice (some ⟨g, j * 2, none⟩) (k - j) (cap - j), .slice (some ⟨g, i * 2, none⟩) (k - i) (cap - i)]).run Tryz.prog w.drew = .ok (goInt (n - i : Nat)) W1) := Aside0.mk fun ty => by
    rw [hW1, hcur1]
    exact run_copy_rowk w.drew _ _ ty 84 2 g (j * 2) (k - j) (cap - j) ⟨g, i * 2, none⟩ (k - i) (cap - i) (n - i) cur 84 cs1 Tryz.underlying46 hsz hg (by simp only [Nat.min_def]; split <;> omega) hc1
      (fun t u hu => by rw [Addr.add_lit]; exact (blk_cell (w := w.drew) hg (i * 2 + t)).trans (hsrc t u hu)) (by rw [hc1, hs]; omega) (by rw [hcs1]; exact one_flat _)
  obtain ⟨cur3, hcur3⟩ : ∃ cur3 : Array Value, cur3 = (cur1.toList.take (i * 2) ++ encE x ++ cur1.toList.drop (i * 2 + (encE x).length)).toArray := ⟨_, rfl⟩
  have hcp2 : Aside0 (∀ ty, (Builtin.copy_ #[46, 46] ty #[.slice (some ⟨g, i * 2, none⟩) (k - i) (cap - i), .slice (some ⟨g2, 0, none⟩) m cap2]).run Tryz.prog W1 = .ok (goInt m) (W1.setRow g cur3)) := Aside0.mk fun ty => by
    rw [hcur3]
    exact run_copy_rowk W1 _ _ ty 84 2 g (i * 2) (k - i) (cap - i) ⟨g2, 0, none⟩ m cap2 m cur1 84 (encE x) Tryz.underlying46 hsz hg1 (by simp only [Nat.min_def]; split <;> omega) (by rw [hm1]; rfl)
      (fun t u hu => by rw [Addr.add_lit, Nat.zero_add]; exact (blk_cell hg21 t).trans (hsrc2 t u hu)) (by rw [hc1s]; show i * 2 + 2 ≤ _; omega) one_e
  have hout : cur3.toList.take (k * 2) = (l0.take i ++ [x] ++ l0.drop i).flatMap encE := by
    have hb : j * 2 = i * 2 + (encE x).length := by show j * 2 = i * 2 + 2; omega
    have hl : j * 2 + cs1.length ≤ cur.toList.length := by rw [hc1, Array.length_toList, hs]; omega
    rw [hcur3, hcur1, List.toList_toArray, List.toList_toArray, row_shift hb hl, e1, e2, List.take_append_of_le_length (by rw [flat_len encE_len, e3]; omega), List.take_of_length_le (by rw [flat_len encE_len, e3]; omega)]
  have hc3s : cur3.size = cap * 2 := by
    rw [hcur3]
    simp only [List.size_toArray, List.length_append, List.length_take, List.length_drop, Array.length_toList, hc1s, encE, List.length_cons, List.length_nil]
    omega
  have hfin : Kd.R k84 84 (W1.setRow g cur3) w0.heap.size (fun k_ => (P0_ k_ ∨ P2_ k_ ∨ w.heap.size ≤ k_)) (.slice (some ⟨g, 0, none⟩) k cap) (l0.take i ++ [x] ++ l0.drop i) :=
    flatR_mk entM encE_len rfl e3.symm hbg (.inl hok) (setRow_heap W1 g cur1 _ _ _ hg1) hroom (by unfold maxLen; omega) hc3s hout
  have hbel : Below w0.heap.size w0 (W1.setRow g cur3) := by
    rw [hW1]
    exact below_setRow (below_setRow (below_drew hB) hbg _) hbg _
  have hkp : Kept w (W1.setRow g cur3) (fun k_ => P0_ k_ ∨ P2_ k_) := by
    rw [hW1]
    exact kept_setRow (kept_setRow (Kept.drew (Kept.refl w _)) (.inl (.inl hok)) _) (.inl (.inl hok)) _
  have HF := Aside0.mk (And.intro hfin (And.intro hbel hkp))
  have hcj : ¬ (cap = j) := by omega
  have hgt : ¬ ((cap : Int) < (k : Int)) := by omega
  have hkc : k ≤ cap := hroom
  have hj10 : i + m = j ∧ j < 10000000 ∧ n + m = k ∧ k < 10000000 ∧ k = i + (k - i) := by omega
  have hw1 : True → IntKind.i64.wrap ((i : Int) + (m : Int)) = (j : Int) := fun _ => (wI hj10.1 hj10.2.1).1
  have hw1' : True → wrap64 ((i : Int) + (m : Int)) = (j : Int) := fun _ => (wI hj10.1 hj10.2.1).2
  have hw2 : True → IntKind.i64.wrap ((n : Int) + (m : Int)) = (k : Int) := fun _ => (wI hj10.2.2.1 hj10.2.2.2.1).1
  have hw2' : True → wrap64 ((n : Int) + (m : Int)) = (k : Int) := fun _ => (wI hj10.2.2.1 hj10.2.2.2.1).2
  have hw3 : True → IntKind.i64.wrap ((k : Int) - (i : Int)) = ((k - i : Nat) : Int) := fun _ => (wS hj10.2.2.2.2 hj10.2.2.2.1).1
  have hw3' : True → wrap64 ((k : Int) - (i : Int)) = ((k - i : Nat) : Int) := fun _ => (wS hj10.2.2.2.2 hj10.2.2.2.1).2
  clear hj10 h50
  clear hB hg hg2 hg1 hg21 hs hs2 ht ht2 hcs1 hc1 hsrc hsrc2 one_e e1 e2 e3 hcur1 hc1s hW1 hcur3 hout hc3s hfin hbel hkp hok hn hj hk hm1
  go_enter Tryz.func126, Tryz.ntmps126
  go_wp2_with (simp only [hov])
  go_region_law (refine step_copy_runI rfl (.tmp 73) (.tmp 76) 46 46 rfl (.slice (some ⟨g, j * 2, none⟩) (k - j) (cap - j)) (.slice (some ⟨g, i * 2, none⟩) (k - i) (cap - i)) (by simp [Act.eval, Act.put]) (by simp [Act.eval, Act.put]) (hcp1.out _) ?_)
  have hcp3 := hcp2.out
  go_wp2
  go_ret
  exact ⟨_, rfl, HF.out.1, HF.out.2.1, HF.out.2.2⟩
set_option maxHeartbeats 8000000 in
set_option maxRecDepth 100000 in
theorem impl_Entry_126.grow (l0 : List S84) (x : S84) (w0 w : World) (P0_ P2_ : Nat → Prop) (g cap g2 cap2 i n m j k : Nat) (cur cur2 : Array Value) (hB : Below w0.heap.size w0 w) (hbg : w0.heap.size ≤ g) (hok : P0_ g) (hne : g2 ≠ g)
    (hg : w.heap[g]? = some (.cells cur 84 (0, 0))) (hm : cap ≤ maxLen) (hs : cur.size = cap * 2) (ht : cur.toList.take (n * 2) = l0.flatMap encE)
    (hg2 : w.heap[g2]? = some (.cells cur2 84 (0, 0))) (hs2 : cur2.size = cap2 * 2) (hmc : m ≤ cap2) (ht2 : cur2.toList.take (m * 2) = encE x)
    (hn : n = l0.length) (hm1 : m = 1) (hi : i < n) (hnc : n ≤ cap) (hj : j = i + m) (hk : k = n + m) (h50 : n < 5000000) (hroom : cap < k) :
    Calls Tryz.prog 126 #[.slice (some ⟨g, 0, none⟩) n cap, .int .i64 (i : Int), .slice (some ⟨g2, 0, none⟩) m cap2] w fun e w' => ∃ v0_ : Value, e = .returned v0_ ∧ Kd.R k84 84 w' w0.heap.size (fun k_ => (P0_ k_ ∨ P2_ k_ ∨ w.heap.size ≤ k_)) v0_ (l0.take i ++ [x] ++ l0.drop i) ∧ Below w0.heap.size w0 w' ∧ Kept w w' (fun k_ => P0_ k_ ∨ P2_ k_) := by
  unfold maxLen at hm
  obtain ⟨i0, hi0, hzz⟩ := Option.map_eq_some_iff.1 info84
  simp only [Prod.mk.injEq] at hzz
  obtain ⟨hz0, hz1, hzb⟩ := hzz
  have hsz : (Tryz.prog.info? 84).map (·.size) = some 2 := by rw [hi0]; simp [hz1]
  have hso : ∀ w, (Go.sizeOf 84).run Tryz.prog w = .ok 2 w := fun w => by simp [Go.sizeOf, typeInfo, hi0, hz1]
  obtain ⟨cs1, hcs1⟩ : ∃ cs1, cs1 = (l0.drop i).flatMap encE := ⟨_, rfl⟩
  have hc1 : cs1.length = (n - i) * 2 := by rw [hcs1, flat_len encE_len, List.length_drop, hn]
  have hsrc : ∀ (t : Nat) (u : Value), cs1[t]? = some u → cur[i * 2 + t]? = some u := by
    intro t u hu
    have htl : t < (n - i) * 2 := by
      have := (List.getElem?_eq_some_iff.1 hu).1
      rwa [hc1] at this
    rw [hcs1, ← flat_drop encE_len, List.getElem?_drop, ← ht, List.getElem?_take, if_pos (by omega)] at hu
    simpa using hu
  have hsrc2 : ∀ (t : Nat) (u : Value), (encE x)[t]? = some u → cur2[t]? = some u := by
    intro t u hu
    have htl : t < 2 := (List.getElem?_eq_some_iff.1 hu).1
    rw [← ht2, List.getElem?_take, if_pos (by omega)] at hu
    simpa using hu
  have one_e : ∀ u ∈ encE x, u.oneCell' = true := by
    intro u hu
    have := one_flat [x] u (by rw [List.flatMap_cons, List.flatMap_nil, List.append_nil]; exact hu)
    exact this
  have hz1' : ¬ ((m : Int) = 0) := by omega
  have hz2 : ¬ ((i : Int) = (n : Int)) := by omega
  have hin : i ≤ n := by omega
  have hic : i ≤ cap := by omega
  have hik : i ≤ k := by omega
  have hjk : j ≤ k := by omega
  have hci : ¬ (cap = i) := by omega
  have hci' : ¬ ((cap : Int) = (i : Int)) := by omega
  have e1 : (cur.toList.take (i * 2)) = (l0.take i).flatMap encE := by
    rw [← flat_take encE_len, ← ht, List.take_take, Nat.min_eq_left (by omega)]
  have e2 : (l0.take i).flatMap encE ++ encE x ++ cs1 = (l0.take i ++ [x] ++ l0.drop i).flatMap encE := by
    rw [hcs1, List.flatMap_append, List.flatMap_append, List.flatMap_cons, List.flatMap_nil, List.append_nil]
  have e3 : (l0.take i ++ [x] ++ l0.drop i).length = k := by
    simp only [List.length_append, List.length_take, List.length_drop, List.length_cons, List.length_nil]
    omega
  have hbw : g < w.heap.size := blk_lt hg
  have hbw2 : g2 < w.heap.size := blk_lt hg2
  have hold : (Builtin.firstCells i0.size i (.slice (some ⟨g, 0, none⟩) i cap)).run Tryz.prog w.drew = .ok ((l0.take i).flatMap encE).toArray w.drew := by
    rw [hz1]
    exact run_firstCells_some w.drew 2 i ⟨g, 0, none⟩ i cap _ (by rw [flat_len encE_len, List.length_take, Nat.min_eq_left (by omega)]) (fun t u hu => by
      rw [Addr.add_lit, Nat.zero_add]
      refine (blk_cell (w := w.drew) hg t).trans ?_
      rw [← e1, List.getElem?_take] at hu
      split at hu
      · simpa using hu
      · cases hu)
  obtain ⟨G, hG⟩ : ∃ G, G = grownCap w k cap 84 := ⟨_, rfl⟩
  have hGn : k ≤ G := by rw [hG]; exact grownCap_ge w _ _ _
  have hGm : G ≤ maxLen := by
    rw [hG]
    exact grownCap_le_maxLen w k cap 84 (by unfold maxLen; omega)
  obtain ⟨ROW, hROW⟩ : ∃ ROW : Array Value, ROW = ((l0.take i).flatMap encE).toArray ++ Builtin.zeroCells (Value.agg #[.string ⟨#[]⟩, .int .i64 0]).cells (k - i) ++ Builtin.zeroCells (Value.agg #[.string ⟨#[]⟩, .int .i64 0]).cells (G - k) := ⟨_, rfl⟩
  obtain ⟨W1, hW1⟩ : ∃ W1, W1 = w.drew.alloc (.cells ROW 84) := ⟨_, rfl⟩
  have hikk : i + (k - i) = k := by omega
  have hrz : Aside0 (∀ ty, (Builtin.append_ #[46, 3] ty #[.slice (some ⟨g, 0, none⟩) i cap, .int .i64 ((k - i : Nat) : Int)]).run Tryz.prog w = .ok (.slice (some ⟨w.heap.size, 0, none⟩) k G) W1) := Aside0.mk fun ty => by
    have h := Lib.run_append_grow_zeros w 46 3 ty 84 i0 (.agg #[.string ⟨#[]⟩, .int .i64 0]) .i64 .i64 Tryz.underlying46 Tryz.underlying3 hi0 hz0 (some ⟨g, 0, none⟩) i cap _ hold (k - i) (by omega) (by rw [hz1]; omega) (by omega) (by omega) (by rw [hzb]; omega) (by rw [hzb, hikk]; exact growslice_fits hroom (by omega))
    rw [hikk, ← hG, ← hROW, ← hW1] at h
    exact h
  have zl : ∀ q, (Builtin.zeroCells (Value.agg #[.string ⟨#[]⟩, .int .i64 0]).cells q).size = q * 2 := fun q => by
    simp [Builtin.zeroCells, Value.cells]
  have hRs : ROW.size = G * 2 := by
    rw [hROW, Array.size_append, Array.size_append, List.size_toArray, flat_len encE_len, List.length_take, zl, zl]
    omega
  have hRt : ROW.toList.take (i * 2) = (l0.take i).flatMap encE := by
    have hl : ((l0.take i).flatMap encE).length = i * 2 := by rw [flat_len encE_len, List.length_take]; omega
    rw [hROW, Array.toList_append, Array.toList_append, List.append_assoc, List.take_append_of_le_length (by simp only []; omega), List.take_of_length_le (by simp only []; omega)]
  have hN : W1.heap[w.heap.size]? = some (.cells ROW 84 (0, 0)) := by
    rw [hW1]
    exact heap_alloc_new w.drew _
  have hO : ∀ q, q < w.heap.size → W1.heap[q]? = w.heap[q]? := fun q hq => by
    rw [hW1]
    exact (below_alloc (Below.refl w.drew.heap.size w.drew) (.cells ROW 84)).block q hq
  obtain ⟨ROW2, hR2⟩ : ∃ ROW2 : Array Value, ROW2 = (ROW.toList.take (i * 2) ++ encE x ++ ROW.toList.drop (i * 2 + (encE x).length)).toArray := ⟨_, rfl⟩
  have hR2s : ROW2.size = G * 2 := by
    rw [hR2]
    simp only [List.size_toArray, List.length_append, List.length_take, List.length_drop, Array.length_toList, hRs, encE, List.length_cons, List.length_nil]
    omega
  obtain ⟨W2, hW2⟩ : ∃ W2, W2 = W1.setRow w.heap.size ROW2 := ⟨_, rfl⟩
  have hcpA : ∀ ty, (Builtin.copy_ #[46, 46] ty #[.slice (some ⟨w.heap.size, i * 2, none⟩) (k - i) (G - i), .slice (some ⟨g2, 0, none⟩) m cap2]).run Tryz.prog W1 = .ok (goInt m) W2 := fun ty => by
    rw [hW2, hR2]
    exact run_copy_rowk W1 _ _ ty 84 2 w.heap.size (i * 2) (k - i) (G - i) ⟨g2, 0, none⟩ m cap2 m ROW 84 (encE x) Tryz.underlying46 hsz hN (by simp only [Nat.min_def]; split <;> omega) (by rw [hm1]; rfl)
      (fun t u hu => by rw [Addr.add_lit, Nat.zero_add]; exact (blk_cell ((hO g2 hbw2).trans hg2) t).trans (hsrc2 t u hu)) (by rw [hRs]; show i * 2 + 2 ≤ _; omega) one_e
  have hN2 : W2.heap[w.heap.size]? = some (.cells ROW2 84 (0, 0)) := by rw [hW2]; exact setRow_heap W1 _ ROW ROW2 _ _ hN
  have hg2' : W2.heap[g]? = some (.cells cur 84 (0, 0)) := by rw [hW2, setRow_other W1 w.heap.size g ROW2 (by omega), hO g hbw]; exact hg
  obtain ⟨ROW3, hR3⟩ : ∃ ROW3 : Array Value, ROW3 = (ROW2.toList.take (j * 2) ++ cs1 ++ ROW2.toList.drop (j * 2 + cs1.length)).toArray := ⟨_, rfl⟩
  have hcpB : Aside0 (∀ ty, (Builtin.copy_ #[46, 46] ty #[.slice (some ⟨w.heap.size, j * 2, none⟩) (k - j) (G - j), .slice (some ⟨g, i * 2, none⟩) (n - i) (cap - i)]).run Tryz.prog W2.drew = .ok (goInt (n - i : Nat)) (W2.drew.setRow w.heap.size ROW3)) := Aside0.mk fun ty => by
    rw [hR3]
    exact run_copy_rowk W2.drew _ _ ty 84 2 w.heap.size (j * 2) (k - j) (G - j) ⟨g, i * 2, none⟩ (n - i) (cap - i) (n - i) ROW2 84 cs1 Tryz.underlying46 hsz hN2 (by simp only [Nat.min_def]; split <;> omega) hc1
      (fun t u hu => by rw [Addr.add_lit]; exact (blk_cell (w := W2.drew) hg2' (i * 2 + t)).trans (hsrc t u hu)) (by rw [hc1, hR2s]; omega) (by rw [hcs1]; exact one_flat _)
  have hR3s : ROW3.size = G * 2 := by
    rw [hR3]
    simp only [List.size_toArray, List.length_append, List.length_take, List.length_drop, Array.length_toList, hR2s, hc1]
    omega
  have hout : ROW3.toList.take (k * 2) = (l0.take i ++ [x] ++ l0.drop i).flatMap encE := by
    have hb : j * 2 = i * 2 + (encE x).length := by show j * 2 = i * 2 + 2; omega
    have hl : j * 2 + cs1.length ≤ ROW.toList.length := by rw [hc1, Array.length_toList, hRs]; omega
    have hkk : k * 2 = j * 2 + cs1.length := by rw [hc1]; omega
    rw [hR3, hR2, List.toList_toArray, List.toList_toArray, hkk, row_two hb hl, hRt, e2]
  have hsw : w0.heap.size ≤ w.heap.size := hB.size
  have hfin : Kd.R k84 84 (W2.drew.setRow w.heap.size ROW3) w0.heap.size (fun k_ => (P0_ k_ ∨ P2_ k_ ∨ w.heap.size ≤ k_)) (.slice (some ⟨w.heap.size, 0, none⟩) k G) (l0.take i ++ [x] ++ l0.drop i) :=
    flatR_mk entM encE_len rfl e3.symm hsw (.inr (.inr (Nat.le_refl _))) (setRow_heap W2.drew _ ROW2 _ _ _ hN2) hGn hGm hR3s hout
  have hbel : Below w0.heap.size w0 (W2.drew.setRow w.heap.size ROW3) := by
    rw [hW2, hW1]
    exact below_setRow (below_drew (below_setRow (below_alloc (below_drew hB) _) hsw _)) hsw _
  have hkp : Kept w (W2.drew.setRow w.heap.size ROW3) (fun k_ => P0_ k_ ∨ P2_ k_) := by
    rw [hW2, hW1]
    exact kept_setRow (Kept.drew (kept_setRow (Kept.alloc (Kept.drew (Kept.refl w _)) _) (.inr (Nat.le_refl _)) _)) (.inr (Nat.le_refl _)) _
  have HF := Aside0.mk (And.intro hfin (And.intro hbel hkp))
  have hGi : ¬ (G = i) := by omega
  have hGj : ¬ (G = j) := by omega
  have hgt : (cap : Int) < (k : Int) := by omega
  have hiG : i ≤ G := by omega
  have hjG : j ≤ G := by omega
  have hG63 : G ≤ 9223372036854775807 := by
    have := hGm
    unfold maxLen at this
    omega
  have hj10 : i + m = j ∧ j < 10000000 ∧ n + m = k ∧ k < 10000000 ∧ k = i + (k - i) := by omega
  have hw1 : True → IntKind.i64.wrap ((i : Int) + (m : Int)) = (j : Int) := fun _ => (wI hj10.1 hj10.2.1).1
  have hw1' : True → wrap64 ((i : Int) + (m : Int)) = (j : Int) := fun _ => (wI hj10.1 hj10.2.1).2
  have hw2 : True → IntKind.i64.wrap ((n : Int) + (m : Int)) = (k : Int) := fun _ => (wI hj10.2.2.1 hj10.2.2.2.1).1
  have hw2' : True → wrap64 ((n : Int) + (m : Int)) = (k : Int) := fun _ => (wI hj10.2.2.1 hj10.2.2.2.1).2
  have hw3 : True → IntKind.i64.wrap ((k : Int) - (i : Int)) = ((k - i : Nat) : Int) := fun _ => (wS hj10.2.2.2.2 hj10.2.2.2.1).1
  have hw3' : True → wrap64 ((k : Int) - (i : Int)) = ((k - i : Nat) : Int) := fun _ => (wS hj10.2.2.2.2 hj10.2.2.2.1).2
  clear hj10 h50
  clear hB hg hg2 hs hs2 ht ht2 hcs1 hc1 hsrc hsrc2 one_e e1 e2 e3 hold hROW hRs hRt hN hO hR2 hR2s hW2 hN2 hg2' hR3 hR3s hout hfin hbel hkp hok hn hj hk hm1 hW1 hG hGm hikk zl hbw hbw2 hsw
  go_enter Tryz.func126, Tryz.ntmps126
  go_wp2_with (at_builtin; refine Lib.wpList_append_run _ rfl _ _ _ _ rfl _ _ rfl rfl _ _ (hrz.out _) ?_)
  go_region_law (refine step_copy_runI rfl (.tmp 50) (.tmp 53) 46 46 rfl (.slice (some ⟨w.heap.size, j * 2, none⟩) (k - j) (G - j)) (.slice (some ⟨g, i * 2, none⟩) (n - i) (cap - i)) (by simp [Act.eval, Act.put]) (by simp [Act.eval, Act.put]) (hcpB.out _) ?_)
  go_wp2
  go_ret
  exact ⟨_, rfl, HF.out.1, HF.out.2.1, HF.out.2.2⟩
set_option maxHeartbeats 8000000 in
set_option maxRecDepth 100000 in
theorem impl_Entry_126.calls (P0_ : Nat → Prop) (u9000_ : Value) (l0 : List (S84)) (a1 : Int) (P2_ : Nat → Prop) (u9001_ : Value) (l2 : List (S84)) (r : List (S84)) (w0 w : World) (hB : Below w0.heap.size w0 w) (ho0 : Kd.R k84 84 w w0.heap.size P0_ u9000_ l0) (hp0_2 : ∀ k_, P0_ k_ → ¬ P2_ k_) (ho2 : Kd.R k84 84 w w0.heap.size P2_ u9001_ l2) (hp2_0 : ∀ k_, P2_ k_ → ¬ P0_ k_) (h : impl_Entry_126.f l0 a1 l2 = some r) :
    Calls Tryz.prog 126 #[u9000_, .int .i64 a1, u9001_] w fun e w' => ∃ v0_ : Value, e = .returned (v0_) ∧ Kd.R k84 84 w' w0.heap.size (fun k_ => (P0_ k_ ∨ P2_ k_ ∨ w.heap.size ≤ k_)) v0_ r ∧ Below w0.heap.size w0 w' ∧ Kept w w' (fun k_ => P0_ k_ ∨ P2_ k_) := by
  unfold impl_Entry_126.f at h
  match l2, ho2, h with
  | [], _, h => cases h
  | _ :: _ :: _, _, h => cases h
  | [x], ho2, h =>
  simp only at h
  by_cases h0 : 0 ≤ a1
  case neg => rw [if_neg h0] at h; cases h
  rw [if_pos h0] at h
  by_cases h1 : a1 ≤ (l0.length : Int)
  case neg => rw [if_neg h1] at h; cases h
  rw [if_pos h1] at h
  by_cases h2 : l0.length < 5000000
  case neg => rw [if_neg h2] at h; cases h
  rw [if_pos h2] at h
  obtain rfl := Option.some.inj h
  clear h
  obtain ⟨i, rfl⟩ : ∃ i : Nat, a1 = (i : Int) := ⟨a1.toNat, by omega⟩
  rw [Int.toNat_natCast]
  obtain ⟨A2, c2, e2, hc2, hC2⟩ := Kd.R_reads ho2
  obtain ⟨g2, cap2, cur2, e3, hbg2, hok2, hg2, hn2, hm2, hs2, ht2⟩ := flatR_open (enc := encE) entM encE_len rfl ho2 (by simp)
  rw [e3] at e2 ⊢
  injection e2 with e4 e5 e6
  subst e4 e6
  by_cases hend : i = l0.length
  · subst hend
    rw [List.take_of_length_le (Nat.le_refl _), List.drop_of_length_le (Nat.le_refl _), List.append_nil]
    exact impl_Entry_126.atEnd l0 [x] w0 w P0_ P2_ _ g2 cap2 hB ho0 rfl hC2 h2
  · have hin : i < l0.length := by omega
    obtain ⟨g, cap, cur, rfl, hbg, hok, hg, hnc, hm, hs, ht⟩ := flatR_open (enc := encE) entM encE_len rfl ho0 (by omega)
    have hne : g2 ≠ g := fun e => hp0_2 g hok (e ▸ hok2)
    have ht2' : cur2.toList.take (1 * 2) = encE x := by
      rw [List.flatMap_cons, List.flatMap_nil, List.append_nil] at ht2
      exact ht2
    by_cases hroom : l0.length + 1 ≤ cap
    · exact impl_Entry_126.shift l0 x w0 w P0_ P2_ g cap g2 cap2 i l0.length 1 (i + 1) (l0.length + 1) cur cur2 hB hbg hok hne hg hm hs ht hg2 hs2 hn2 ht2' rfl rfl hin hnc rfl rfl h2 hroom
    · exact impl_Entry_126.grow l0 x w0 w P0_ P2_ g cap g2 cap2 i l0.length 1 (i + 1) (l0.length + 1) cur cur2 hB hbg hok hne hg hm hs ht hg2 hs2 hn2 ht2' rfl rfl hin hnc rfl rfl h2 (by omega)
end Go.Proofs.YtblejbgkcgajgaaGreat.Q
end
