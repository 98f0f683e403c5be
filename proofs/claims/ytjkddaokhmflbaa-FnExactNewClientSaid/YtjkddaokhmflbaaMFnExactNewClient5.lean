/- Parts of the proof of the law FnExactNewClient, joined into one text. -/
import Derived.Test.YtjkddaokhmflbaaMFnExactNewClient4
section
namespace Go.Proofs.Ytjkddaokhmflbaa.Q
open Go.RowKit Go.Proofs.YtjkddaokhmflbaaW.PrintWords Go.Proofs.YtjkddaokhmflbaaW.PrintLast Go.Proofs.YtjkddaokhmflbaaW.PrintMore
attribute [local go_sem] max2_int min2_int max_two min_two max_three min_three max_four min_four   -- for this text's walks alone
set_option linter.unusedVariables false
set_option linter.unusedSimpArgs false
attribute [local go_sem] bin_leq bin_gtr bin_geq
def laws_heldEntryS.l0 : Nat → List (S74) → Int → Int → Option (Int)
  | 0, _, _, _ => none
  | k + 1, x0, x1, x5 => if x5 < (x0.length : Int) then (if 0 ≤ x5 then ((laws_markText.f k x1).bind fun t236 => (if ((rd_T74 x0 x5).f0).toList = t236.toList then (if ((rd_T74 x0 x5).f1) = (wrap64 (x1 + 1)) then (laws_heldEntryS.l0 k x0 (wrap64 ((wrap64 (x1 + 1)) + 1)) (wrap64 (x5 + 1))) else (some (-1))) else (some (-1)))) else (none)) else (some x1)
def laws_heldEntryS.f (k : Nat) (l0 : List (S74)) (a1 : Int) : Option (Int) := laws_heldEntryS.l0 k l0 a1 0
def laws_heldEntryS.T4 : Bool × List (List Nat × List Nat) := (true, [([], []), ([], []), ([0, 1], [0, 1]), ([2], [2]), ([3], [3]), ([], []), ([5], [5]), ([4, 6], [4, 6])])
def laws_heldEntryS.B4 : List Nat := [0, 0, 3, 7, 15, 0, 32, 127]
theorem laws_heldEntryS.tab4 : rtab .any (opsOf Try.f38 4) = laws_heldEntryS.T4 := by kernel_rfl
theorem laws_heldEntryS.bits4 : waitsOk laws_heldEntryS.T4.2 laws_heldEntryS.B4 = true := by kernel_rfl
set_option maxHeartbeats 8000000 in
set_option maxRecDepth 100000 in
theorem laws_heldEntryS.calls (k : Nat) (A0 : Option Addr) (c0 : Nat) (l0 : List (S74)) (a1 : Int) (r : Int) (w : World) (hr0 : Kd.C k74 w A0 l0.length l0) (hc0 : l0.length ≤ c0) (h : laws_heldEntryS.f k l0 a1 = some r) :
    Calls Try.prog 38 #[.slice A0 l0.length c0, .int .i64 a1] w fun e w' => e = .returned (.int .i64 r) ∧ Below w.heap.size w w' := by
  have HR0 := Aside0.mk hr0
  have HC0 := Aside0.mk hc0
  clear hr0 hc0
  have HB := Aside0.mk (Below.refl w.heap.size w)
  have H : (laws_heldEntryS.l0 k l0 a1 0) = some r := h
  clear h
  have H' := Aside0.mk H
  clear H
  go_enter Try.func38, Try.ntmps38
  go_wp2
  go_loopg [1, 5] k (fun kq v1 v5 w' => ∃ (x1_1 : Int) (x5_1 : Int), v1 = .int .i64 x1_1 ∧ v5 = .int .i64 x5_1 ∧ Aside0 (laws_heldEntryS.l0 kq l0 x1_1 x5_1 = some r) ∧ Aside0 (kq ≤ k) ∧ Aside0 (Below w.heap.size w w'))
  case atStart => exact ⟨(a1), (0), vE, vE, H', ⟨Nat.le_refl _⟩, ⟨bW⟩⟩
  case round =>
    clear H'
    try clear p2
    obtain ⟨x1_1, x5_1, rfl, rfl, HA, HK1, HB⟩ := hrel
    cases gk with
    | zero => exact absurd HA.out (by simp [laws_heldEntryS.l0])
    | succ k1 =>
      have H := HA.out
      clear HA
      simp only [laws_heldEntryS.l0] at H
      by_cases c3 : x5_1 < (l0.length : Int)
      · rw [if_pos c3] at H
        have c3b0 : decide (x5_1 < (l0.length : Int)) = true := decide_eq_true c3
        clear c3
        by_cases c4 : 0 ≤ x5_1
        · rw [if_pos c4] at H
          have c4b0 : decide (0 ≤ x5_1) = true := decide_eq_true c4
          clear c4
          replace H := Option.bind_eq_some_iff.mp H
          obtain ⟨t236, A50, H⟩ := H
          replace H : (if ((rd_T74 l0 x5_1).f0).toList = t236.toList then (if ((rd_T74 l0 x5_1).f1) = (wrap64 (x1_1 + 1)) then (laws_heldEntryS.l0 k1 l0 (wrap64 ((wrap64 (x1_1 + 1)) + 1)) (wrap64 (x5_1 + 1))) else (some (-1))) else (some (-1))) = some r := H
          have A5 := Aside0.mk A50
          clear A50
          by_cases c6 : ((rd_T74 l0 x5_1).f0).toList = t236.toList
          · rw [if_pos c6] at H
            have c6b0 : (((rd_T74 l0 x5_1).f0).toList == t236.toList) = true := beq_iff_eq.mpr c6
            have c6b1 : (((rd_T74 l0 x5_1).f0).toList != t236.toList) = false := bne_eq_false_iff_eq.mpr c6
            clear c6
            by_cases c7 : ((rd_T74 l0 x5_1).f1) = (wrap64 (x1_1 + 1))
            · rw [if_pos c7] at H
              have c7b0 : (((rd_T74 l0 x5_1).f1) == (wrap64 (x1_1 + 1))) = true := beq_iff_eq.mpr c7
              have c7b1 : (((rd_T74 l0 x5_1).f1) != (wrap64 (x1_1 + 1))) = false := bne_eq_false_iff_eq.mpr c7
              clear c7
              have H' := Aside0.mk H
              clear H
              try go_wp2
              have n0_ := Aside0.mk (below_drew1 HB.out)
              clear HB
              have HB := n0_
              clear n0_
              have p235 : 0 ≤ (x5_1 : Int) := odt
              have q235 : x5_1 < (l0.length : Int) := odt
              obtain ⟨ad235, e235, hx235_0, hx235_1⟩ := at_T74 HR0.out x5_1 p235 q235
              have hw235_1 := hx235_1
              have hw235_0 := hx235_0
              cases e235
              replace hx235_0 := (HB.out.cell (World.block_lt_of_cell? w _ hx235_0)).trans hx235_0
              replace hx235_1 := (HB.out.cell (World.block_lt_of_cell? w _ hx235_1)).trans hx235_1
              replace p235 := eq_true p235
              replace q235 := eq_true q235
              refine start_ (n := 8) (S := fun w' => w'.cell? (ad235.add ((x5_1).toNat * 2)) = some (.string ((rd_T74 l0 x5_1).f0)) ∧ w'.cell? ⟨(ad235.add ((x5_1).toNat * 2)).block, (ad235.add ((x5_1).toNat * 2)).off + 1, none⟩ = some (.int .i64 ((rd_T74 l0 x5_1).f1))) (ds := []) #[false, false, false, false, false, false, false, false] (by kernel_rfl) rfl rfl ⟨((HB.out.cell (World.block_lt_of_cell? w _ hw235_0)).trans hw235_0), ((HB.out.cell (World.block_lt_of_cell? w _ hw235_1)).trans hw235_1)⟩ (fun hHeld => ?_); refine with_tabW laws_heldEntryS.tab4 laws_heldEntryS.bits4 (fun HT_ HW_ => ?_)
              generalize wr.drew = w8 at HB hx235_0 hx235_1 hHeld ⊢
              refine pure_ (i := 0) (N := some 12) (v := ?_) (a' := ?_) #[true, false, false, false, false, false, false, false] rfl rfl (any_of HT_.out (by kernel_rfl)) (fun _ _ _ h => h) (Or.inl ⟨by rfl, ?_⟩) ?_ ?_
              rotate_left
              · intro w'
                go_simp
                with_reducible rfl
              rotate_left
              · simp only [Act.put, List.setIfInBounds_toArray, List.set_cons_zero, List.set_cons_succ, i64_w, i32_w]
                rfl
              refine pure_ (i := 1) (N := some 13) (v := ?_) (a' := ?_) #[true, true, false, false, false, false, false, false] rfl rfl (any_of HT_.out (by kernel_rfl)) (fun _ _ _ h => h) (Or.inl ⟨by rfl, ?_⟩) ?_ ?_
              rotate_left
              · intro w'
                go_simp
                with_reducible rfl
              rotate_left
              · simp only [Act.put, List.setIfInBounds_toArray, List.set_cons_zero, List.set_cons_succ, i64_w, i32_w]
                rfl
              refine pure_ (i := 2) (N := some 14) (v := ?_) (a' := ?_) #[true, true, true, false, false, false, false, false] rfl rfl (any_of HT_.out (by kernel_rfl)) (fun _ _ _ h => h) (Or.inl ⟨by rfl, ?_⟩) ?_ ?_
              rotate_left
              · intro w'
                go_simp
                with_reducible rfl
              rotate_left
              · simp only [Act.put, List.setIfInBounds_toArray, List.set_cons_zero, List.set_cons_succ, i64_w, i32_w]
                rfl
              refine pure_ (i := 3) (N := some 15) (v := ?_) (a' := ?_) #[true, true, true, true, false, false, false, false] rfl rfl (any_of HT_.out (by kernel_rfl)) (fun _ _ _ h => h) (Or.inl ⟨by rfl, ?_⟩) ?_ ?_
              rotate_left
              · intro w'
                go_simp
                with_reducible rfl
              rotate_left
              · simp only [Act.put, List.setIfInBounds_toArray, List.set_cons_zero, List.set_cons_succ, i64_w, i32_w]
                rfl
              refine pure_ (i := 5) (N := some 17) (v := ?_) (a' := ?_) #[true, true, true, true, false, true, false, false] rfl rfl (any_of HT_.out (by kernel_rfl)) (fun _ _ _ h => h) (Or.inl ⟨by rfl, ?_⟩) ?_ ?_
              rotate_left
              · intro w'
                go_simp
                with_reducible rfl
              rotate_left
              · simp only [Act.put, List.setIfInBounds_toArray, List.set_cons_zero, List.set_cons_succ, i64_w, i32_w]
                rfl
              refine take_ (i := 4) (N := some 16) (v := ?_) (a' := ?_) #[true, true, true, true, true, true, false, false] rfl rfl (take_ofW HT_.out HW_.out (by kernel_rfl)) (fun _ _ _ h => h) (Or.inl ⟨by rfl, ?_⟩) hHeld ?_ ?_
              rotate_left
              · rintro w' ⟨s0, s1⟩
                go_simp
                with_reducible rfl
              rotate_left
              · simp only [Act.put, List.setIfInBounds_toArray, List.set_cons_zero, List.set_cons_succ, i64_w, i32_w]
                rfl
              refine one_ (i := 6) (N := some 18) #[true, true, true, true, true, true, true, false] rfl rfl (one_of HT_.out (by kernel_rfl)) (by decide) (fun K hK => ?_)
              refine goes_ Try.func48 (by kernel_rfl) rfl #[.int .i64 x1_1] (by rfl) rfl rfl gA ?_
              with_reducible refine (laws_markText.calls k1 x1_1 t236 _ A5.out).mono ?_
              rintro e w9 ⟨rfl, hb⟩
              refine ⟨_, rfl, ?_⟩
              have n0_ := Aside0.mk (below_step (w := w) bW hb)
              clear HB
              have HB := n0_
              clear n0_
              (try clear hb)
              (try clear hb2)
              (try clear hk)
              (try clear hi)
              refine hK.out _ _ ⟨((HB.out.cell (World.block_lt_of_cell? w _ hw235_0)).trans hw235_0), ((HB.out.cell (World.block_lt_of_cell? w _ hw235_1)).trans hw235_1)⟩ (fun hHeld => ?_)
              clear hK K
              refine norm_ (a' := ?_) ?_ ?_
              rotate_left
              · show Act.put _ (some 18) _ = _
                simp only [Act.put, List.setIfInBounds_toArray, List.set_cons_zero, List.set_cons_succ, i64_w, i32_w]
                rfl
              refine pure_ (i := 7) (N := some 19) (v := ?_) (a' := ?_) #[true, true, true, true, true, true, true, true] rfl rfl (any_of HT_.out (by kernel_rfl)) (fun _ _ _ h => h) (Or.inl ⟨by rfl, ?_⟩) ?_ ?_
              rotate_left
              · intro w'
                go_simp
                with_reducible rfl
              rotate_left
              · simp only [Act.put, List.setIfInBounds_toArray, List.set_cons_zero, List.set_cons_succ, i64_w, i32_w]
                rfl
              refine done_ (done_of HT_.out (by kernel_rfl)) ?_
              have p237 : 0 ≤ (x5_1 : Int) := odt
              have q237 : x5_1 < (l0.length : Int) := odt
              obtain ⟨ad237, e237, hx237_0, hx237_1⟩ := at_T74 HR0.out x5_1 p237 q237
              obtain rfl : ad235 = ad237 := (by injection e237)
              replace hx237_0 := (HB.out.cell (World.block_lt_of_cell? w _ hx237_0)).trans hx237_0
              replace hx237_1 := (HB.out.cell (World.block_lt_of_cell? w _ hx237_1)).trans hx237_1
              replace p237 := eq_true p237
              replace q237 := eq_true q237
              try go_wp2
              go_roundg k1
              case measure => have := HK1.out; omega
              case rel => exact ⟨(wrap64 ((wrap64 (x1_1 + 1)) + 1)), (wrap64 (x5_1 + 1)), vE, vE, H', ⟨by have := HK1.out; omega⟩, ⟨bW⟩⟩
            · rw [if_neg c7] at H
              have c7b0 : (((rd_T74 l0 x5_1).f1) == (wrap64 (x1_1 + 1))) = false := beq_eq_false_iff_ne.mpr c7
              have c7b1 : (((rd_T74 l0 x5_1).f1) != (wrap64 (x1_1 + 1))) = true := bne_iff_ne.mpr c7
              obtain rfl := Option.some.inj H
              try go_wp2
              have n0_ := Aside0.mk (below_drew1 HB.out)
              clear HB
              have HB := n0_
              clear n0_
              have p235 : 0 ≤ (x5_1 : Int) := odt
              have q235 : x5_1 < (l0.length : Int) := odt
              obtain ⟨ad235, e235, hx235_0, hx235_1⟩ := at_T74 HR0.out x5_1 p235 q235
              have hw235_1 := hx235_1
              have hw235_0 := hx235_0
              cases e235
              replace hx235_0 := (HB.out.cell (World.block_lt_of_cell? w _ hx235_0)).trans hx235_0
              replace hx235_1 := (HB.out.cell (World.block_lt_of_cell? w _ hx235_1)).trans hx235_1
              replace p235 := eq_true p235
              replace q235 := eq_true q235
              refine start_ (n := 8) (S := fun w' => w'.cell? (ad235.add ((x5_1).toNat * 2)) = some (.string ((rd_T74 l0 x5_1).f0)) ∧ w'.cell? ⟨(ad235.add ((x5_1).toNat * 2)).block, (ad235.add ((x5_1).toNat * 2)).off + 1, none⟩ = some (.int .i64 ((rd_T74 l0 x5_1).f1))) (ds := []) #[false, false, false, false, false, false, false, false] (by kernel_rfl) rfl rfl ⟨((HB.out.cell (World.block_lt_of_cell? w _ hw235_0)).trans hw235_0), ((HB.out.cell (World.block_lt_of_cell? w _ hw235_1)).trans hw235_1)⟩ (fun hHeld => ?_); refine with_tabW laws_heldEntryS.tab4 laws_heldEntryS.bits4 (fun HT_ HW_ => ?_)
              generalize wr.drew = w10 at HB hx235_0 hx235_1 hHeld ⊢
              refine pure_ (i := 0) (N := some 12) (v := ?_) (a' := ?_) #[true, false, false, false, false, false, false, false] rfl rfl (any_of HT_.out (by kernel_rfl)) (fun _ _ _ h => h) (Or.inl ⟨by rfl, ?_⟩) ?_ ?_
              rotate_left
              · intro w'
                go_simp
                with_reducible rfl
              rotate_left
              · simp only [Act.put, List.setIfInBounds_toArray, List.set_cons_zero, List.set_cons_succ, i64_w, i32_w]
                rfl
              refine pure_ (i := 1) (N := some 13) (v := ?_) (a' := ?_) #[true, true, false, false, false, false, false, false] rfl rfl (any_of HT_.out (by kernel_rfl)) (fun _ _ _ h => h) (Or.inl ⟨by rfl, ?_⟩) ?_ ?_
              rotate_left
              · intro w'
                go_simp
                with_reducible rfl
              rotate_left
              · simp only [Act.put, List.setIfInBounds_toArray, List.set_cons_zero, List.set_cons_succ, i64_w, i32_w]
                rfl
              refine pure_ (i := 2) (N := some 14) (v := ?_) (a' := ?_) #[true, true, true, false, false, false, false, false] rfl rfl (any_of HT_.out (by kernel_rfl)) (fun _ _ _ h => h) (Or.inl ⟨by rfl, ?_⟩) ?_ ?_
              rotate_left
              · intro w'
                go_simp
                with_reducible rfl
              rotate_left
              · simp only [Act.put, List.setIfInBounds_toArray, List.set_cons_zero, List.set_cons_succ, i64_w, i32_w]
                rfl
              refine pure_ (i := 3) (N := some 15) (v := ?_) (a' := ?_) #[true, true, true, true, false, false, false, false] rfl rfl (any_of HT_.out (by kernel_rfl)) (fun _ _ _ h => h) (Or.inl ⟨by rfl, ?_⟩) ?_ ?_
              rotate_left
              · intro w'
                go_simp
                with_reducible rfl
              rotate_left
              · simp only [Act.put, List.setIfInBounds_toArray, List.set_cons_zero, List.set_cons_succ, i64_w, i32_w]
                rfl
              refine pure_ (i := 5) (N := some 17) (v := ?_) (a' := ?_) #[true, true, true, true, false, true, false, false] rfl rfl (any_of HT_.out (by kernel_rfl)) (fun _ _ _ h => h) (Or.inl ⟨by rfl, ?_⟩) ?_ ?_
              rotate_left
              · intro w'
                go_simp
                with_reducible rfl
              rotate_left
              · simp only [Act.put, List.setIfInBounds_toArray, List.set_cons_zero, List.set_cons_succ, i64_w, i32_w]
                rfl
              refine take_ (i := 4) (N := some 16) (v := ?_) (a' := ?_) #[true, true, true, true, true, true, false, false] rfl rfl (take_ofW HT_.out HW_.out (by kernel_rfl)) (fun _ _ _ h => h) (Or.inl ⟨by rfl, ?_⟩) hHeld ?_ ?_
              rotate_left
              · rintro w' ⟨s0, s1⟩
                go_simp
                with_reducible rfl
              rotate_left
              · simp only [Act.put, List.setIfInBounds_toArray, List.set_cons_zero, List.set_cons_succ, i64_w, i32_w]
                rfl
              refine one_ (i := 6) (N := some 18) #[true, true, true, true, true, true, true, false] rfl rfl (one_of HT_.out (by kernel_rfl)) (by decide) (fun K hK => ?_)
              refine goes_ Try.func48 (by kernel_rfl) rfl #[.int .i64 x1_1] (by rfl) rfl rfl gA ?_
              with_reducible refine (laws_markText.calls k1 x1_1 t236 _ A5.out).mono ?_
              rintro e w11 ⟨rfl, hb⟩
              refine ⟨_, rfl, ?_⟩
              have n0_ := Aside0.mk (below_step (w := w) bW hb)
              clear HB
              have HB := n0_
              clear n0_
              (try clear hb)
              (try clear hb2)
              (try clear hk)
              (try clear hi)
              refine hK.out _ _ ⟨((HB.out.cell (World.block_lt_of_cell? w _ hw235_0)).trans hw235_0), ((HB.out.cell (World.block_lt_of_cell? w _ hw235_1)).trans hw235_1)⟩ (fun hHeld => ?_)
              clear hK K
              refine norm_ (a' := ?_) ?_ ?_
              rotate_left
              · show Act.put _ (some 18) _ = _
                simp only [Act.put, List.setIfInBounds_toArray, List.set_cons_zero, List.set_cons_succ, i64_w, i32_w]
                rfl
              refine pure_ (i := 7) (N := some 19) (v := ?_) (a' := ?_) #[true, true, true, true, true, true, true, true] rfl rfl (any_of HT_.out (by kernel_rfl)) (fun _ _ _ h => h) (Or.inl ⟨by rfl, ?_⟩) ?_ ?_
              rotate_left
              · intro w'
                go_simp
                with_reducible rfl
              rotate_left
              · simp only [Act.put, List.setIfInBounds_toArray, List.set_cons_zero, List.set_cons_succ, i64_w, i32_w]
                rfl
              refine done_ (done_of HT_.out (by kernel_rfl)) ?_
              have p237 : 0 ≤ (x5_1 : Int) := odt
              have q237 : x5_1 < (l0.length : Int) := odt
              obtain ⟨ad237, e237, hx237_0, hx237_1⟩ := at_T74 HR0.out x5_1 p237 q237
              obtain rfl : ad235 = ad237 := (by injection e237)
              replace hx237_0 := (HB.out.cell (World.block_lt_of_cell? w _ hx237_0)).trans hx237_0
              replace hx237_1 := (HB.out.cell (World.block_lt_of_cell? w _ hx237_1)).trans hx237_1
              replace p237 := eq_true p237
              replace q237 := eq_true q237
              try go_wp2
              go_ret
              exact ⟨rE, bW⟩
          · rw [if_neg c6] at H
            have c6b0 : (((rd_T74 l0 x5_1).f0).toList == t236.toList) = false := beq_eq_false_iff_ne.mpr c6
            have c6b1 : (((rd_T74 l0 x5_1).f0).toList != t236.toList) = true := bne_iff_ne.mpr c6
            obtain rfl := Option.some.inj H
            try go_wp2
            have n0_ := Aside0.mk (below_drew1 HB.out)
            clear HB
            have HB := n0_
            clear n0_
            have p235 : 0 ≤ (x5_1 : Int) := odt
            have q235 : x5_1 < (l0.length : Int) := odt
            obtain ⟨ad235, e235, hx235_0, hx235_1⟩ := at_T74 HR0.out x5_1 p235 q235
            have hw235_1 := hx235_1
            have hw235_0 := hx235_0
            cases e235
            replace hx235_0 := (HB.out.cell (World.block_lt_of_cell? w _ hx235_0)).trans hx235_0
            replace hx235_1 := (HB.out.cell (World.block_lt_of_cell? w _ hx235_1)).trans hx235_1
            replace p235 := eq_true p235
            replace q235 := eq_true q235
            refine start_ (n := 8) (S := fun w' => w'.cell? (ad235.add ((x5_1).toNat * 2)) = some (.string ((rd_T74 l0 x5_1).f0)) ∧ w'.cell? ⟨(ad235.add ((x5_1).toNat * 2)).block, (ad235.add ((x5_1).toNat * 2)).off + 1, none⟩ = some (.int .i64 ((rd_T74 l0 x5_1).f1))) (ds := []) #[false, false, false, false, false, false, false, false] (by kernel_rfl) rfl rfl ⟨((HB.out.cell (World.block_lt_of_cell? w _ hw235_0)).trans hw235_0), ((HB.out.cell (World.block_lt_of_cell? w _ hw235_1)).trans hw235_1)⟩ (fun hHeld => ?_); refine with_tabW laws_heldEntryS.tab4 laws_heldEntryS.bits4 (fun HT_ HW_ => ?_)
            generalize wr.drew = w12 at HB hx235_0 hx235_1 hHeld ⊢
            refine pure_ (i := 0) (N := some 12) (v := ?_) (a' := ?_) #[true, false, false, false, false, false, false, false] rfl rfl (any_of HT_.out (by kernel_rfl)) (fun _ _ _ h => h) (Or.inl ⟨by rfl, ?_⟩) ?_ ?_
            rotate_left
            · intro w'
              go_simp
              with_reducible rfl
            rotate_left
            · simp only [Act.put, List.setIfInBounds_toArray, List.set_cons_zero, List.set_cons_succ, i64_w, i32_w]
              rfl
            refine pure_ (i := 1) (N := some 13) (v := ?_) (a' := ?_) #[true, true, false, false, false, false, false, false] rfl rfl (any_of HT_.out (by kernel_rfl)) (fun _ _ _ h => h) (Or.inl ⟨by rfl, ?_⟩) ?_ ?_
            rotate_left
            · intro w'
              go_simp
              with_reducible rfl
            rotate_left
            · simp only [Act.put, List.setIfInBounds_toArray, List.set_cons_zero, List.set_cons_succ, i64_w, i32_w]
              rfl
            refine pure_ (i := 2) (N := some 14) (v := ?_) (a' := ?_) #[true, true, true, false, false, false, false, false] rfl rfl (any_of HT_.out (by kernel_rfl)) (fun _ _ _ h => h) (Or.inl ⟨by rfl, ?_⟩) ?_ ?_
            rotate_left
            · intro w'
              go_simp
              with_reducible rfl
            rotate_left
            · simp only [Act.put, List.setIfInBounds_toArray, List.set_cons_zero, List.set_cons_succ, i64_w, i32_w]
              rfl
            refine pure_ (i := 3) (N := some 15) (v := ?_) (a' := ?_) #[true, true, true, true, false, false, false, false] rfl rfl (any_of HT_.out (by kernel_rfl)) (fun _ _ _ h => h) (Or.inl ⟨by rfl, ?_⟩) ?_ ?_
            rotate_left
            · intro w'
              go_simp
              with_reducible rfl
            rotate_left
            · simp only [Act.put, List.setIfInBounds_toArray, List.set_cons_zero, List.set_cons_succ, i64_w, i32_w]
              rfl
            refine pure_ (i := 5) (N := some 17) (v := ?_) (a' := ?_) #[true, true, true, true, false, true, false, false] rfl rfl (any_of HT_.out (by kernel_rfl)) (fun _ _ _ h => h) (Or.inl ⟨by rfl, ?_⟩) ?_ ?_
            rotate_left
            · intro w'
              go_simp
              with_reducible rfl
            rotate_left
            · simp only [Act.put, List.setIfInBounds_toArray, List.set_cons_zero, List.set_cons_succ, i64_w, i32_w]
              rfl
            refine take_ (i := 4) (N := some 16) (v := ?_) (a' := ?_) #[true, true, true, true, true, true, false, false] rfl rfl (take_ofW HT_.out HW_.out (by kernel_rfl)) (fun _ _ _ h => h) (Or.inl ⟨by rfl, ?_⟩) hHeld ?_ ?_
            rotate_left
            · rintro w' ⟨s0, s1⟩
              go_simp
              with_reducible rfl
            rotate_left
            · simp only [Act.put, List.setIfInBounds_toArray, List.set_cons_zero, List.set_cons_succ, i64_w, i32_w]
              rfl
            refine one_ (i := 6) (N := some 18) #[true, true, true, true, true, true, true, false] rfl rfl (one_of HT_.out (by kernel_rfl)) (by decide) (fun K hK => ?_)
            refine goes_ Try.func48 (by kernel_rfl) rfl #[.int .i64 x1_1] (by rfl) rfl rfl gA ?_
            with_reducible refine (laws_markText.calls k1 x1_1 t236 _ A5.out).mono ?_
            rintro e w13 ⟨rfl, hb⟩
            refine ⟨_, rfl, ?_⟩
            have n0_ := Aside0.mk (below_step (w := w) bW hb)
            clear HB
            have HB := n0_
            clear n0_
            (try clear hb)
            (try clear hb2)
            (try clear hk)
            (try clear hi)
            refine hK.out _ _ ⟨((HB.out.cell (World.block_lt_of_cell? w _ hw235_0)).trans hw235_0), ((HB.out.cell (World.block_lt_of_cell? w _ hw235_1)).trans hw235_1)⟩ (fun hHeld => ?_)
            clear hK K
            refine norm_ (a' := ?_) ?_ ?_
            rotate_left
            · show Act.put _ (some 18) _ = _
              simp only [Act.put, List.setIfInBounds_toArray, List.set_cons_zero, List.set_cons_succ, i64_w, i32_w]
              rfl
            refine pure_ (i := 7) (N := some 19) (v := ?_) (a' := ?_) #[true, true, true, true, true, true, true, true] rfl rfl (any_of HT_.out (by kernel_rfl)) (fun _ _ _ h => h) (Or.inl ⟨by rfl, ?_⟩) ?_ ?_
            rotate_left
            · intro w'
              go_simp
              with_reducible rfl
            rotate_left
            · simp only [Act.put, List.setIfInBounds_toArray, List.set_cons_zero, List.set_cons_succ, i64_w, i32_w]
              rfl
            refine done_ (done_of HT_.out (by kernel_rfl)) ?_
            try go_wp2
            go_ret
            exact ⟨rE, bW⟩
        · rw [if_neg c4] at H
          exact absurd H (by simp)
      · rw [if_neg c3] at H
        have c3b0 : decide (x5_1 < (l0.length : Int)) = false := decide_eq_false c3
        clear c3
        obtain rfl := Option.some.inj H
        go_wp2
        go_ret
        exact ⟨rE, bW⟩
end Go.Proofs.Ytjkddaokhmflbaa.Q
end

section
namespace Go.Proofs.Ytjkddaokhmflbaa.Q
open Go.RowKit Go.Proofs.YtjkddaokhmflbaaW.PrintWords Go.Proofs.YtjkddaokhmflbaaW.PrintLast Go.Proofs.YtjkddaokhmflbaaW.PrintMore
attribute [local go_sem] max2_int min2_int max_two min_two max_three min_three max_four min_four   -- for this text's walks alone
set_option linter.unusedVariables false
set_option linter.unusedSimpArgs false
attribute [local go_sem] bin_leq bin_gtr bin_geq
def laws_heldEditS.l0 : Nat → List (S119) → Int → Int → Option (Int)
  | 0, _, _, _ => none
  | k + 1, x0, x1, x5 => if x5 < (x0.length : Int) then (if 0 ≤ x5 then ((laws_markText.f k x1).bind fun t493 => (if ((rd_T119 x0 x5).f0).toList = t493.toList then (if ((rd_T119 x0 x5).f1) = (wrap64 (x1 + 1)) then (if (((rd_T119 x0 x5).f2) != ((Int.tmod (wrap64 ((wrap64 (x1 + 1)) + 1)) 3) == 0)) = true then (some (-1)) else (laws_heldEditS.l0 k x0 (wrap64 ((wrap64 ((wrap64 (x1 + 1)) + 1)) + 1)) (wrap64 (x5 + 1)))) else (some (-1))) else (some (-1)))) else (none)) else (some x1)
def laws_heldEditS.f (k : Nat) (l0 : List (S119)) (a1 : Int) : Option (Int) := laws_heldEditS.l0 k l0 a1 0
def laws_heldEditS.T4 : Bool × List (List Nat × List Nat) := (true, [([], []), ([], []), ([0, 1], [0, 1]), ([2], [2]), ([3], [3]), ([], []), ([5], [5]), ([4, 6], [4, 6])])
def laws_heldEditS.B4 : List Nat := [0, 0, 3, 7, 15, 0, 32, 127]
theorem laws_heldEditS.tab4 : rtab .any (opsOf Try.f92 4) = laws_heldEditS.T4 := by kernel_rfl
theorem laws_heldEditS.bits4 : waitsOk laws_heldEditS.T4.2 laws_heldEditS.B4 = true := by kernel_rfl
set_option maxHeartbeats 8000000 in
set_option maxRecDepth 100000 in
theorem laws_heldEditS.calls (k : Nat) (A0 : Option Addr) (c0 : Nat) (l0 : List (S119)) (a1 : Int) (r : Int) (w : World) (hr0 : Kd.C k119 w A0 l0.length l0) (hc0 : l0.length ≤ c0) (h : laws_heldEditS.f k l0 a1 = some r) :
    Calls Try.prog 92 #[.slice A0 l0.length c0, .int .i64 a1] w fun e w' => e = .returned (.int .i64 r) ∧ Below w.heap.size w w' := by
  have HR0 := Aside0.mk hr0
  have HC0 := Aside0.mk hc0
  clear hr0 hc0
  have HB := Aside0.mk (Below.refl w.heap.size w)
  have H : (laws_heldEditS.l0 k l0 a1 0) = some r := h
  clear h
  have H' := Aside0.mk H
  clear H
  go_enter Try.func92, Try.ntmps92
  go_wp2
  go_loopg [1, 5] k (fun kq v1 v5 w' => ∃ (x1_1 : Int) (x5_1 : Int), v1 = .int .i64 x1_1 ∧ v5 = .int .i64 x5_1 ∧ Aside0 (laws_heldEditS.l0 kq l0 x1_1 x5_1 = some r) ∧ Aside0 (kq ≤ k) ∧ Aside0 (Below w.heap.size w w'))
  case atStart => exact ⟨(a1), (0), vE, vE, H', ⟨Nat.le_refl _⟩, ⟨bW⟩⟩
  case round =>
    clear H'
    try clear p2
    obtain ⟨x1_1, x5_1, rfl, rfl, HA, HK1, HB⟩ := hrel
    cases gk with
    | zero => exact absurd HA.out (by simp [laws_heldEditS.l0])
    | succ k1 =>
      have H := HA.out
      clear HA
      simp only [laws_heldEditS.l0] at H
      by_cases c3 : x5_1 < (l0.length : Int)
      · rw [if_pos c3] at H
        have c3b0 : decide (x5_1 < (l0.length : Int)) = true := decide_eq_true c3
        clear c3
        by_cases c4 : 0 ≤ x5_1
        · rw [if_pos c4] at H
          have c4b0 : decide (0 ≤ x5_1) = true := decide_eq_true c4
          clear c4
          replace H := Option.bind_eq_some_iff.mp H
          obtain ⟨t493, A50, H⟩ := H
          replace H : (if ((rd_T119 l0 x5_1).f0).toList = t493.toList then (if ((rd_T119 l0 x5_1).f1) = (wrap64 (x1_1 + 1)) then (if (((rd_T119 l0 x5_1).f2) != ((Int.tmod (wrap64 ((wrap64 (x1_1 + 1)) + 1)) 3) == 0)) = true then (some (-1)) else (laws_heldEditS.l0 k1 l0 (wrap64 ((wrap64 ((wrap64 (x1_1 + 1)) + 1)) + 1)) (wrap64 (x5_1 + 1)))) else (some (-1))) else (some (-1))) = some r := H
          have A5 := Aside0.mk A50
          clear A50
          by_cases c6 : ((rd_T119 l0 x5_1).f0).toList = t493.toList
          · rw [if_pos c6] at H
            have c6b0 : (((rd_T119 l0 x5_1).f0).toList == t493.toList) = true := beq_iff_eq.mpr c6
            have c6b1 : (((rd_T119 l0 x5_1).f0).toList != t493.toList) = false := bne_eq_false_iff_eq.mpr c6
            clear c6
            by_cases c7 : ((rd_T119 l0 x5_1).f1) = (wrap64 (x1_1 + 1))
            · rw [if_pos c7] at H
              have c7b0 : (((rd_T119 l0 x5_1).f1) == (wrap64 (x1_1 + 1))) = true := beq_iff_eq.mpr c7
              have c7b1 : (((rd_T119 l0 x5_1).f1) != (wrap64 (x1_1 + 1))) = false := bne_eq_false_iff_eq.mpr c7
              clear c7
              by_cases c8 : (((rd_T119 l0 x5_1).f2) != ((Int.tmod (wrap64 ((wrap64 (x1_1 + 1)) + 1)) 3) == 0)) = true
              · rw [if_pos c8] at H
                have c8b0 : (((rd_T119 l0 x5_1).f2) != ((Int.tmod (wrap64 ((wrap64 (x1_1 + 1)) + 1)) 3) == 0)) = true := c8
                (try (have c8b1 : decide (((rd_T119 l0 x5_1).f2) = ((Int.tmod (wrap64 ((wrap64 (x1_1 + 1)) + 1)) 3) == 0)) = false := by simpa using c8))
                (try (have c8b2 : (((rd_T119 l0 x5_1).f2) == ((Int.tmod (wrap64 ((wrap64 (x1_1 + 1)) + 1)) 3) == 0)) = false := by simpa using c8))
                (try (have c8b3 : ¬ (((rd_T119 l0 x5_1).f2) = ((Int.tmod (wrap64 ((wrap64 (x1_1 + 1)) + 1)) 3) == 0)) := by simpa using c8))
                clear c8
                obtain rfl := Option.some.inj H
                try go_wp2
                have n0_ := Aside0.mk (below_drew1 HB.out)
                clear HB
                have HB := n0_
                clear n0_
                have p492 : 0 ≤ (x5_1 : Int) := odt
                have q492 : x5_1 < (l0.length : Int) := odt
                obtain ⟨ad492, e492, hx492_0, hx492_1, hx492_2⟩ := at_T119 HR0.out x5_1 p492 q492
                have hw492_2 := hx492_2
                have hw492_1 := hx492_1
                have hw492_0 := hx492_0
                cases e492
                replace hx492_0 := (HB.out.cell (World.block_lt_of_cell? w _ hx492_0)).trans hx492_0
                replace hx492_1 := (HB.out.cell (World.block_lt_of_cell? w _ hx492_1)).trans hx492_1
                replace hx492_2 := (HB.out.cell (World.block_lt_of_cell? w _ hx492_2)).trans hx492_2
                replace p492 := eq_true p492
                replace q492 := eq_true q492
                refine start_ (n := 8) (S := fun w' => w'.cell? (ad492.add ((x5_1).toNat * 3)) = some (.string ((rd_T119 l0 x5_1).f0)) ∧ w'.cell? ⟨(ad492.add ((x5_1).toNat * 3)).block, (ad492.add ((x5_1).toNat * 3)).off + 1, none⟩ = some (.int .i64 ((rd_T119 l0 x5_1).f1)) ∧ w'.cell? ⟨(ad492.add ((x5_1).toNat * 3)).block, (ad492.add ((x5_1).toNat * 3)).off + 2, none⟩ = some (.bool ((rd_T119 l0 x5_1).f2))) (ds := []) #[false, false, false, false, false, false, false, false] (by kernel_rfl) rfl rfl ⟨((HB.out.cell (World.block_lt_of_cell? w _ hw492_0)).trans hw492_0), ((HB.out.cell (World.block_lt_of_cell? w _ hw492_1)).trans hw492_1), ((HB.out.cell (World.block_lt_of_cell? w _ hw492_2)).trans hw492_2)⟩ (fun hHeld => ?_); refine with_tabW laws_heldEditS.tab4 laws_heldEditS.bits4 (fun HT_ HW_ => ?_)
                generalize wr.drew = w9 at HB hx492_0 hx492_1 hx492_2 hHeld ⊢
                refine pure_ (i := 0) (N := some 12) (v := ?_) (a' := ?_) #[true, false, false, false, false, false, false, false] rfl rfl (any_of HT_.out (by kernel_rfl)) (fun _ _ _ h => h) (Or.inl ⟨by rfl, ?_⟩) ?_ ?_
                rotate_left
                · intro w'
                  go_simp
                  with_reducible rfl
                rotate_left
                · simp only [Act.put, List.setIfInBounds_toArray, List.set_cons_zero, List.set_cons_succ, i64_w, i32_w]
                  rfl
                refine pure_ (i := 1) (N := some 13) (v := ?_) (a' := ?_) #[true, true, false, false, false, false, false, false] rfl rfl (any_of HT_.out (by kernel_rfl)) (fun _ _ _ h => h) (Or.inl ⟨by rfl, ?_⟩) ?_ ?_
                rotate_left
                · intro w'
                  go_simp
                  with_reducible rfl
                rotate_left
                · simp only [Act.put, List.setIfInBounds_toArray, List.set_cons_zero, List.set_cons_succ, i64_w, i32_w]
                  rfl
                refine pure_ (i := 2) (N := some 14) (v := ?_) (a' := ?_) #[true, true, true, false, false, false, false, false] rfl rfl (any_of HT_.out (by kernel_rfl)) (fun _ _ _ h => h) (Or.inl ⟨by rfl, ?_⟩) ?_ ?_
                rotate_left
                · intro w'
                  go_simp
                  with_reducible rfl
                rotate_left
                · simp only [Act.put, List.setIfInBounds_toArray, List.set_cons_zero, List.set_cons_succ, i64_w, i32_w]
                  rfl
                refine pure_ (i := 3) (N := some 15) (v := ?_) (a' := ?_) #[true, true, true, true, false, false, false, false] rfl rfl (any_of HT_.out (by kernel_rfl)) (fun _ _ _ h => h) (Or.inl ⟨by rfl, ?_⟩) ?_ ?_
                rotate_left
                · intro w'
                  go_simp
                  with_reducible rfl
                rotate_left
                · simp only [Act.put, List.setIfInBounds_toArray, List.set_cons_zero, List.set_cons_succ, i64_w, i32_w]
                  rfl
                refine pure_ (i := 5) (N := some 17) (v := ?_) (a' := ?_) #[true, true, true, true, false, true, false, false] rfl rfl (any_of HT_.out (by kernel_rfl)) (fun _ _ _ h => h) (Or.inl ⟨by rfl, ?_⟩) ?_ ?_
                rotate_left
                · intro w'
                  go_simp
                  with_reducible rfl
                rotate_left
                · simp only [Act.put, List.setIfInBounds_toArray, List.set_cons_zero, List.set_cons_succ, i64_w, i32_w]
                  rfl
                refine take_ (i := 4) (N := some 16) (v := ?_) (a' := ?_) #[true, true, true, true, true, true, false, false] rfl rfl (take_ofW HT_.out HW_.out (by kernel_rfl)) (fun _ _ _ h => h) (Or.inl ⟨by rfl, ?_⟩) hHeld ?_ ?_
                rotate_left
                · rintro w' ⟨s0, s1, s2⟩
                  go_simp
                  with_reducible rfl
                rotate_left
                · simp only [Act.put, List.setIfInBounds_toArray, List.set_cons_zero, List.set_cons_succ, i64_w, i32_w]
                  rfl
                refine one_ (i := 6) (N := some 18) #[true, true, true, true, true, true, true, false] rfl rfl (one_of HT_.out (by kernel_rfl)) (by decide) (fun K hK => ?_)
                refine goes_ Try.func48 (by kernel_rfl) rfl #[.int .i64 x1_1] (by rfl) rfl rfl gA ?_
                with_reducible refine (laws_markText.calls k1 x1_1 t493 _ A5.out).mono ?_
                rintro e w10 ⟨rfl, hb⟩
                refine ⟨_, rfl, ?_⟩
                have n0_ := Aside0.mk (below_step (w := w) bW hb)
                clear HB
                have HB := n0_
                clear n0_
                (try clear hb)
                (try clear hb2)
                (try clear hk)
                (try clear hi)
                refine hK.out _ _ ⟨((HB.out.cell (World.block_lt_of_cell? w _ hw492_0)).trans hw492_0), ((HB.out.cell (World.block_lt_of_cell? w _ hw492_1)).trans hw492_1), ((HB.out.cell (World.block_lt_of_cell? w _ hw492_2)).trans hw492_2)⟩ (fun hHeld => ?_)
                clear hK K
                refine norm_ (a' := ?_) ?_ ?_
                rotate_left
                · show Act.put _ (some 18) _ = _
                  simp only [Act.put, List.setIfInBounds_toArray, List.set_cons_zero, List.set_cons_succ, i64_w, i32_w]
                  rfl
                refine pure_ (i := 7) (N := some 19) (v := ?_) (a' := ?_) #[true, true, true, true, true, true, true, true] rfl rfl (any_of HT_.out (by kernel_rfl)) (fun _ _ _ h => h) (Or.inl ⟨by rfl, ?_⟩) ?_ ?_
                rotate_left
                · intro w'
                  go_simp
                  with_reducible rfl
                rotate_left
                · simp only [Act.put, List.setIfInBounds_toArray, List.set_cons_zero, List.set_cons_succ, i64_w, i32_w]
                  rfl
                refine done_ (done_of HT_.out (by kernel_rfl)) ?_
                have p494 : 0 ≤ (x5_1 : Int) := odt
                have q494 : x5_1 < (l0.length : Int) := odt
                obtain ⟨ad494, e494, hx494_0, hx494_1, hx494_2⟩ := at_T119 HR0.out x5_1 p494 q494
                obtain rfl : ad492 = ad494 := (by injection e494)
                replace hx494_0 := (HB.out.cell (World.block_lt_of_cell? w _ hx494_0)).trans hx494_0
                replace hx494_1 := (HB.out.cell (World.block_lt_of_cell? w _ hx494_1)).trans hx494_1
                replace hx494_2 := (HB.out.cell (World.block_lt_of_cell? w _ hx494_2)).trans hx494_2
                replace p494 := eq_true p494
                replace q494 := eq_true q494
                have p495 : 0 ≤ (x5_1 : Int) := odt
                have q495 : x5_1 < (l0.length : Int) := odt
                obtain ⟨ad495, e495, hx495_0, hx495_1, hx495_2⟩ := at_T119 HR0.out x5_1 p495 q495
                obtain rfl : ad492 = ad495 := (by injection e495)
                replace hx495_0 := (HB.out.cell (World.block_lt_of_cell? w _ hx495_0)).trans hx495_0
                replace hx495_1 := (HB.out.cell (World.block_lt_of_cell? w _ hx495_1)).trans hx495_1
                replace hx495_2 := (HB.out.cell (World.block_lt_of_cell? w _ hx495_2)).trans hx495_2
                replace p495 := eq_true p495
                replace q495 := eq_true q495
                try go_wp2
                go_ret
                exact ⟨rE, bW⟩
              · rw [if_neg c8] at H
                have c8b0 : (((rd_T119 l0 x5_1).f2) != ((Int.tmod (wrap64 ((wrap64 (x1_1 + 1)) + 1)) 3) == 0)) = false := by simpa using c8
                (try (have c8b1 : decide (((rd_T119 l0 x5_1).f2) = ((Int.tmod (wrap64 ((wrap64 (x1_1 + 1)) + 1)) 3) == 0)) = true := by simpa using c8))
                (try (have c8b2 : (((rd_T119 l0 x5_1).f2) == ((Int.tmod (wrap64 ((wrap64 (x1_1 + 1)) + 1)) 3) == 0)) = true := by simpa using c8))
                clear c8
                have H' := Aside0.mk H
                clear H
                try go_wp2
                have n0_ := Aside0.mk (below_drew1 HB.out)
                clear HB
                have HB := n0_
                clear n0_
                have p492 : 0 ≤ (x5_1 : Int) := odt
                have q492 : x5_1 < (l0.length : Int) := odt
                obtain ⟨ad492, e492, hx492_0, hx492_1, hx492_2⟩ := at_T119 HR0.out x5_1 p492 q492
                have hw492_2 := hx492_2
                have hw492_1 := hx492_1
                have hw492_0 := hx492_0
                cases e492
                replace hx492_0 := (HB.out.cell (World.block_lt_of_cell? w _ hx492_0)).trans hx492_0
                replace hx492_1 := (HB.out.cell (World.block_lt_of_cell? w _ hx492_1)).trans hx492_1
                replace hx492_2 := (HB.out.cell (World.block_lt_of_cell? w _ hx492_2)).trans hx492_2
                replace p492 := eq_true p492
                replace q492 := eq_true q492
                refine start_ (n := 8) (S := fun w' => w'.cell? (ad492.add ((x5_1).toNat * 3)) = some (.string ((rd_T119 l0 x5_1).f0)) ∧ w'.cell? ⟨(ad492.add ((x5_1).toNat * 3)).block, (ad492.add ((x5_1).toNat * 3)).off + 1, none⟩ = some (.int .i64 ((rd_T119 l0 x5_1).f1)) ∧ w'.cell? ⟨(ad492.add ((x5_1).toNat * 3)).block, (ad492.add ((x5_1).toNat * 3)).off + 2, none⟩ = some (.bool ((rd_T119 l0 x5_1).f2))) (ds := []) #[false, false, false, false, false, false, false, false] (by kernel_rfl) rfl rfl ⟨((HB.out.cell (World.block_lt_of_cell? w _ hw492_0)).trans hw492_0), ((HB.out.cell (World.block_lt_of_cell? w _ hw492_1)).trans hw492_1), ((HB.out.cell (World.block_lt_of_cell? w _ hw492_2)).trans hw492_2)⟩ (fun hHeld => ?_); refine with_tabW laws_heldEditS.tab4 laws_heldEditS.bits4 (fun HT_ HW_ => ?_)
                generalize wr.drew = w11 at HB hx492_0 hx492_1 hx492_2 hHeld ⊢
                refine pure_ (i := 0) (N := some 12) (v := ?_) (a' := ?_) #[true, false, false, false, false, false, false, false] rfl rfl (any_of HT_.out (by kernel_rfl)) (fun _ _ _ h => h) (Or.inl ⟨by rfl, ?_⟩) ?_ ?_
                rotate_left
                · intro w'
                  go_simp
                  with_reducible rfl
                rotate_left
                · simp only [Act.put, List.setIfInBounds_toArray, List.set_cons_zero, List.set_cons_succ, i64_w, i32_w]
                  rfl
                refine pure_ (i := 1) (N := some 13) (v := ?_) (a' := ?_) #[true, true, false, false, false, false, false, false] rfl rfl (any_of HT_.out (by kernel_rfl)) (fun _ _ _ h => h) (Or.inl ⟨by rfl, ?_⟩) ?_ ?_
                rotate_left
                · intro w'
                  go_simp
                  with_reducible rfl
                rotate_left
                · simp only [Act.put, List.setIfInBounds_toArray, List.set_cons_zero, List.set_cons_succ, i64_w, i32_w]
                  rfl
                refine pure_ (i := 2) (N := some 14) (v := ?_) (a' := ?_) #[true, true, true, false, false, false, false, false] rfl rfl (any_of HT_.out (by kernel_rfl)) (fun _ _ _ h => h) (Or.inl ⟨by rfl, ?_⟩) ?_ ?_
                rotate_left
                · intro w'
                  go_simp
                  with_reducible rfl
                rotate_left
                · simp only [Act.put, List.setIfInBounds_toArray, List.set_cons_zero, List.set_cons_succ, i64_w, i32_w]
                  rfl
                refine pure_ (i := 3) (N := some 15) (v := ?_) (a' := ?_) #[true, true, true, true, false, false, false, false] rfl rfl (any_of HT_.out (by kernel_rfl)) (fun _ _ _ h => h) (Or.inl ⟨by rfl, ?_⟩) ?_ ?_
                rotate_left
                · intro w'
                  go_simp
                  with_reducible rfl
                rotate_left
                · simp only [Act.put, List.setIfInBounds_toArray, List.set_cons_zero, List.set_cons_succ, i64_w, i32_w]
                  rfl
                refine pure_ (i := 5) (N := some 17) (v := ?_) (a' := ?_) #[true, true, true, true, false, true, false, false] rfl rfl (any_of HT_.out (by kernel_rfl)) (fun _ _ _ h => h) (Or.inl ⟨by rfl, ?_⟩) ?_ ?_
                rotate_left
                · intro w'
                  go_simp
                  with_reducible rfl
                rotate_left
                · simp only [Act.put, List.setIfInBounds_toArray, List.set_cons_zero, List.set_cons_succ, i64_w, i32_w]
                  rfl
                refine take_ (i := 4) (N := some 16) (v := ?_) (a' := ?_) #[true, true, true, true, true, true, false, false] rfl rfl (take_ofW HT_.out HW_.out (by kernel_rfl)) (fun _ _ _ h => h) (Or.inl ⟨by rfl, ?_⟩) hHeld ?_ ?_
                rotate_left
                · rintro w' ⟨s0, s1, s2⟩
                  go_simp
                  with_reducible rfl
                rotate_left
                · simp only [Act.put, List.setIfInBounds_toArray, List.set_cons_zero, List.set_cons_succ, i64_w, i32_w]
                  rfl
                refine one_ (i := 6) (N := some 18) #[true, true, true, true, true, true, true, false] rfl rfl (one_of HT_.out (by kernel_rfl)) (by decide) (fun K hK => ?_)
                refine goes_ Try.func48 (by kernel_rfl) rfl #[.int .i64 x1_1] (by rfl) rfl rfl gA ?_
                with_reducible refine (laws_markText.calls k1 x1_1 t493 _ A5.out).mono ?_
                rintro e w12 ⟨rfl, hb⟩
                refine ⟨_, rfl, ?_⟩
                have n0_ := Aside0.mk (below_step (w := w) bW hb)
                clear HB
                have HB := n0_
                clear n0_
                (try clear hb)
                (try clear hb2)
                (try clear hk)
                (try clear hi)
                refine hK.out _ _ ⟨((HB.out.cell (World.block_lt_of_cell? w _ hw492_0)).trans hw492_0), ((HB.out.cell (World.block_lt_of_cell? w _ hw492_1)).trans hw492_1), ((HB.out.cell (World.block_lt_of_cell? w _ hw492_2)).trans hw492_2)⟩ (fun hHeld => ?_)
                clear hK K
                refine norm_ (a' := ?_) ?_ ?_
                rotate_left
                · show Act.put _ (some 18) _ = _
                  simp only [Act.put, List.setIfInBounds_toArray, List.set_cons_zero, List.set_cons_succ, i64_w, i32_w]
                  rfl
                refine pure_ (i := 7) (N := some 19) (v := ?_) (a' := ?_) #[true, true, true, true, true, true, true, true] rfl rfl (any_of HT_.out (by kernel_rfl)) (fun _ _ _ h => h) (Or.inl ⟨by rfl, ?_⟩) ?_ ?_
                rotate_left
                · intro w'
                  go_simp
                  with_reducible rfl
                rotate_left
                · simp only [Act.put, List.setIfInBounds_toArray, List.set_cons_zero, List.set_cons_succ, i64_w, i32_w]
                  rfl
                refine done_ (done_of HT_.out (by kernel_rfl)) ?_
                have p494 : 0 ≤ (x5_1 : Int) := odt
                have q494 : x5_1 < (l0.length : Int) := odt
                obtain ⟨ad494, e494, hx494_0, hx494_1, hx494_2⟩ := at_T119 HR0.out x5_1 p494 q494
                obtain rfl : ad492 = ad494 := (by injection e494)
                replace hx494_0 := (HB.out.cell (World.block_lt_of_cell? w _ hx494_0)).trans hx494_0
                replace hx494_1 := (HB.out.cell (World.block_lt_of_cell? w _ hx494_1)).trans hx494_1
                replace hx494_2 := (HB.out.cell (World.block_lt_of_cell? w _ hx494_2)).trans hx494_2
                replace p494 := eq_true p494
                replace q494 := eq_true q494
                have p495 : 0 ≤ (x5_1 : Int) := odt
                have q495 : x5_1 < (l0.length : Int) := odt
                obtain ⟨ad495, e495, hx495_0, hx495_1, hx495_2⟩ := at_T119 HR0.out x5_1 p495 q495
                obtain rfl : ad492 = ad495 := (by injection e495)
                replace hx495_0 := (HB.out.cell (World.block_lt_of_cell? w _ hx495_0)).trans hx495_0
                replace hx495_1 := (HB.out.cell (World.block_lt_of_cell? w _ hx495_1)).trans hx495_1
                replace hx495_2 := (HB.out.cell (World.block_lt_of_cell? w _ hx495_2)).trans hx495_2
                replace p495 := eq_true p495
                replace q495 := eq_true q495
                try go_wp2
                go_roundg k1
                case measure => have := HK1.out; omega
                case rel => exact ⟨(wrap64 ((wrap64 ((wrap64 (x1_1 + 1)) + 1)) + 1)), (wrap64 (x5_1 + 1)), vE, vE, H', ⟨by have := HK1.out; omega⟩, ⟨bW⟩⟩
            · rw [if_neg c7] at H
              have c7b0 : (((rd_T119 l0 x5_1).f1) == (wrap64 (x1_1 + 1))) = false := beq_eq_false_iff_ne.mpr c7
              have c7b1 : (((rd_T119 l0 x5_1).f1) != (wrap64 (x1_1 + 1))) = true := bne_iff_ne.mpr c7
              obtain rfl := Option.some.inj H
              try go_wp2
              have n0_ := Aside0.mk (below_drew1 HB.out)
              clear HB
              have HB := n0_
              clear n0_
              have p492 : 0 ≤ (x5_1 : Int) := odt
              have q492 : x5_1 < (l0.length : Int) := odt
              obtain ⟨ad492, e492, hx492_0, hx492_1, hx492_2⟩ := at_T119 HR0.out x5_1 p492 q492
              have hw492_2 := hx492_2
              have hw492_1 := hx492_1
              have hw492_0 := hx492_0
              cases e492
              replace hx492_0 := (HB.out.cell (World.block_lt_of_cell? w _ hx492_0)).trans hx492_0
              replace hx492_1 := (HB.out.cell (World.block_lt_of_cell? w _ hx492_1)).trans hx492_1
              replace hx492_2 := (HB.out.cell (World.block_lt_of_cell? w _ hx492_2)).trans hx492_2
              replace p492 := eq_true p492
              replace q492 := eq_true q492
              refine start_ (n := 8) (S := fun w' => w'.cell? (ad492.add ((x5_1).toNat * 3)) = some (.string ((rd_T119 l0 x5_1).f0)) ∧ w'.cell? ⟨(ad492.add ((x5_1).toNat * 3)).block, (ad492.add ((x5_1).toNat * 3)).off + 1, none⟩ = some (.int .i64 ((rd_T119 l0 x5_1).f1)) ∧ w'.cell? ⟨(ad492.add ((x5_1).toNat * 3)).block, (ad492.add ((x5_1).toNat * 3)).off + 2, none⟩ = some (.bool ((rd_T119 l0 x5_1).f2))) (ds := []) #[false, false, false, false, false, false, false, false] (by kernel_rfl) rfl rfl ⟨((HB.out.cell (World.block_lt_of_cell? w _ hw492_0)).trans hw492_0), ((HB.out.cell (World.block_lt_of_cell? w _ hw492_1)).trans hw492_1), ((HB.out.cell (World.block_lt_of_cell? w _ hw492_2)).trans hw492_2)⟩ (fun hHeld => ?_); refine with_tabW laws_heldEditS.tab4 laws_heldEditS.bits4 (fun HT_ HW_ => ?_)
              generalize wr.drew = w13 at HB hx492_0 hx492_1 hx492_2 hHeld ⊢
              refine pure_ (i := 0) (N := some 12) (v := ?_) (a' := ?_) #[true, false, false, false, false, false, false, false] rfl rfl (any_of HT_.out (by kernel_rfl)) (fun _ _ _ h => h) (Or.inl ⟨by rfl, ?_⟩) ?_ ?_
              rotate_left
              · intro w'
                go_simp
                with_reducible rfl
              rotate_left
              · simp only [Act.put, List.setIfInBounds_toArray, List.set_cons_zero, List.set_cons_succ, i64_w, i32_w]
                rfl
              refine pure_ (i := 1) (N := some 13) (v := ?_) (a' := ?_) #[true, true, false, false, false, false, false, false] rfl rfl (any_of HT_.out (by kernel_rfl)) (fun _ _ _ h => h) (Or.inl ⟨by rfl, ?_⟩) ?_ ?_
              rotate_left
              · intro w'
                go_simp
                with_reducible rfl
              rotate_left
              · simp only [Act.put, List.setIfInBounds_toArray, List.set_cons_zero, List.set_cons_succ, i64_w, i32_w]
                rfl
              refine pure_ (i := 2) (N := some 14) (v := ?_) (a' := ?_) #[true, true, true, false, false, false, false, false] rfl rfl (any_of HT_.out (by kernel_rfl)) (fun _ _ _ h => h) (Or.inl ⟨by rfl, ?_⟩) ?_ ?_
              rotate_left
              · intro w'
                go_simp
                with_reducible rfl
              rotate_left
              · simp only [Act.put, List.setIfInBounds_toArray, List.set_cons_zero, List.set_cons_succ, i64_w, i32_w]
                rfl
              refine pure_ (i := 3) (N := some 15) (v := ?_) (a' := ?_) #[true, true, true, true, false, false, false, false] rfl rfl (any_of HT_.out (by kernel_rfl)) (fun _ _ _ h => h) (Or.inl ⟨by rfl, ?_⟩) ?_ ?_
              rotate_left
              · intro w'
                go_simp
                with_reducible rfl
              rotate_left
              · simp only [Act.put, List.setIfInBounds_toArray, List.set_cons_zero, List.set_cons_succ, i64_w, i32_w]
                rfl
              refine pure_ (i := 5) (N := some 17) (v := ?_) (a' := ?_) #[true, true, true, true, false, true, false, false] rfl rfl (any_of HT_.out (by kernel_rfl)) (fun _ _ _ h => h) (Or.inl ⟨by rfl, ?_⟩) ?_ ?_
              rotate_left
              · intro w'
                go_simp
                with_reducible rfl
              rotate_left
              · simp only [Act.put, List.setIfInBounds_toArray, List.set_cons_zero, List.set_cons_succ, i64_w, i32_w]
                rfl
              refine take_ (i := 4) (N := some 16) (v := ?_) (a' := ?_) #[true, true, true, true, true, true, false, false] rfl rfl (take_ofW HT_.out HW_.out (by kernel_rfl)) (fun _ _ _ h => h) (Or.inl ⟨by rfl, ?_⟩) hHeld ?_ ?_
              rotate_left
              · rintro w' ⟨s0, s1, s2⟩
                go_simp
                with_reducible rfl
              rotate_left
              · simp only [Act.put, List.setIfInBounds_toArray, List.set_cons_zero, List.set_cons_succ, i64_w, i32_w]
                rfl
              refine one_ (i := 6) (N := some 18) #[true, true, true, true, true, true, true, false] rfl rfl (one_of HT_.out (by kernel_rfl)) (by decide) (fun K hK => ?_)
              refine goes_ Try.func48 (by kernel_rfl) rfl #[.int .i64 x1_1] (by rfl) rfl rfl gA ?_
              with_reducible refine (laws_markText.calls k1 x1_1 t493 _ A5.out).mono ?_
              rintro e w14 ⟨rfl, hb⟩
              refine ⟨_, rfl, ?_⟩
              have n0_ := Aside0.mk (below_step (w := w) bW hb)
              clear HB
              have HB := n0_
              clear n0_
              (try clear hb)
              (try clear hb2)
              (try clear hk)
              (try clear hi)
              refine hK.out _ _ ⟨((HB.out.cell (World.block_lt_of_cell? w _ hw492_0)).trans hw492_0), ((HB.out.cell (World.block_lt_of_cell? w _ hw492_1)).trans hw492_1), ((HB.out.cell (World.block_lt_of_cell? w _ hw492_2)).trans hw492_2)⟩ (fun hHeld => ?_)
              clear hK K
              refine norm_ (a' := ?_) ?_ ?_
              rotate_left
              · show Act.put _ (some 18) _ = _
                simp only [Act.put, List.setIfInBounds_toArray, List.set_cons_zero, List.set_cons_succ, i64_w, i32_w]
                rfl
              refine pure_ (i := 7) (N := some 19) (v := ?_) (a' := ?_) #[true, true, true, true, true, true, true, true] rfl rfl (any_of HT_.out (by kernel_rfl)) (fun _ _ _ h => h) (Or.inl ⟨by rfl, ?_⟩) ?_ ?_
              rotate_left
              · intro w'
                go_simp
                with_reducible rfl
              rotate_left
              · simp only [Act.put, List.setIfInBounds_toArray, List.set_cons_zero, List.set_cons_succ, i64_w, i32_w]
                rfl
              refine done_ (done_of HT_.out (by kernel_rfl)) ?_
              have p494 : 0 ≤ (x5_1 : Int) := odt
              have q494 : x5_1 < (l0.length : Int) := odt
              obtain ⟨ad494, e494, hx494_0, hx494_1, hx494_2⟩ := at_T119 HR0.out x5_1 p494 q494
              obtain rfl : ad492 = ad494 := (by injection e494)
              replace hx494_0 := (HB.out.cell (World.block_lt_of_cell? w _ hx494_0)).trans hx494_0
              replace hx494_1 := (HB.out.cell (World.block_lt_of_cell? w _ hx494_1)).trans hx494_1
              replace hx494_2 := (HB.out.cell (World.block_lt_of_cell? w _ hx494_2)).trans hx494_2
              replace p494 := eq_true p494
              replace q494 := eq_true q494
              try go_wp2
              go_ret
              exact ⟨rE, bW⟩
          · rw [if_neg c6] at H
            have c6b0 : (((rd_T119 l0 x5_1).f0).toList == t493.toList) = false := beq_eq_false_iff_ne.mpr c6
            have c6b1 : (((rd_T119 l0 x5_1).f0).toList != t493.toList) = true := bne_iff_ne.mpr c6
            obtain rfl := Option.some.inj H
            try go_wp2
            have n0_ := Aside0.mk (below_drew1 HB.out)
            clear HB
            have HB := n0_
            clear n0_
            have p492 : 0 ≤ (x5_1 : Int) := odt
            have q492 : x5_1 < (l0.length : Int) := odt
            obtain ⟨ad492, e492, hx492_0, hx492_1, hx492_2⟩ := at_T119 HR0.out x5_1 p492 q492
            have hw492_2 := hx492_2
            have hw492_1 := hx492_1
            have hw492_0 := hx492_0
            cases e492
            replace hx492_0 := (HB.out.cell (World.block_lt_of_cell? w _ hx492_0)).trans hx492_0
            replace hx492_1 := (HB.out.cell (World.block_lt_of_cell? w _ hx492_1)).trans hx492_1
            replace hx492_2 := (HB.out.cell (World.block_lt_of_cell? w _ hx492_2)).trans hx492_2
            replace p492 := eq_true p492
            replace q492 := eq_true q492
            refine start_ (n := 8) (S := fun w' => w'.cell? (ad492.add ((x5_1).toNat * 3)) = some (.string ((rd_T119 l0 x5_1).f0)) ∧ w'.cell? ⟨(ad492.add ((x5_1).toNat * 3)).block, (ad492.add ((x5_1).toNat * 3)).off + 1, none⟩ = some (.int .i64 ((rd_T119 l0 x5_1).f1)) ∧ w'.cell? ⟨(ad492.add ((x5_1).toNat * 3)).block, (ad492.add ((x5_1).toNat * 3)).off + 2, none⟩ = some (.bool ((rd_T119 l0 x5_1).f2))) (ds := []) #[false, false, false, false, false, false, false, false] (by kernel_rfl) rfl rfl ⟨((HB.out.cell (World.block_lt_of_cell? w _ hw492_0)).trans hw492_0), ((HB.out.cell (World.block_lt_of_cell? w _ hw492_1)).trans hw492_1), ((HB.out.cell (World.block_lt_of_cell? w _ hw492_2)).trans hw492_2)⟩ (fun hHeld => ?_); refine with_tabW laws_heldEditS.tab4 laws_heldEditS.bits4 (fun HT_ HW_ => ?_)
            generalize wr.drew = w15 at HB hx492_0 hx492_1 hx492_2 hHeld ⊢
            refine pure_ (i := 0) (N := some 12) (v := ?_) (a' := ?_) #[true, false, false, false, false, false, false, false] rfl rfl (any_of HT_.out (by kernel_rfl)) (fun _ _ _ h => h) (Or.inl ⟨by rfl, ?_⟩) ?_ ?_
            rotate_left
            · intro w'
              go_simp
              with_reducible rfl
            rotate_left
            · simp only [Act.put, List.setIfInBounds_toArray, List.set_cons_zero, List.set_cons_succ, i64_w, i32_w]
              rfl
            refine pure_ (i := 1) (N := some 13) (v := ?_) (a' := ?_) #[true, true, false, false, false, false, false, false] rfl rfl (any_of HT_.out (by kernel_rfl)) (fun _ _ _ h => h) (Or.inl ⟨by rfl, ?_⟩) ?_ ?_
            rotate_left
            · intro w'
              go_simp
              with_reducible rfl
            rotate_left
            · simp only [Act.put, List.setIfInBounds_toArray, List.set_cons_zero, List.set_cons_succ, i64_w, i32_w]
              rfl
            refine pure_ (i := 2) (N := some 14) (v := ?_) (a' := ?_) #[true, true, true, false, false, false, false, false] rfl rfl (any_of HT_.out (by kernel_rfl)) (fun _ _ _ h => h) (Or.inl ⟨by rfl, ?_⟩) ?_ ?_
            rotate_left
            · intro w'
              go_simp
              with_reducible rfl
            rotate_left
            · simp only [Act.put, List.setIfInBounds_toArray, List.set_cons_zero, List.set_cons_succ, i64_w, i32_w]
              rfl
            refine pure_ (i := 3) (N := some 15) (v := ?_) (a' := ?_) #[true, true, true, true, false, false, false, false] rfl rfl (any_of HT_.out (by kernel_rfl)) (fun _ _ _ h => h) (Or.inl ⟨by rfl, ?_⟩) ?_ ?_
            rotate_left
            · intro w'
              go_simp
              with_reducible rfl
            rotate_left
            · simp only [Act.put, List.setIfInBounds_toArray, List.set_cons_zero, List.set_cons_succ, i64_w, i32_w]
              rfl
            refine pure_ (i := 5) (N := some 17) (v := ?_) (a' := ?_) #[true, true, true, true, false, true, false, false] rfl rfl (any_of HT_.out (by kernel_rfl)) (fun _ _ _ h => h) (Or.inl ⟨by rfl, ?_⟩) ?_ ?_
            rotate_left
            · intro w'
              go_simp
              with_reducible rfl
            rotate_left
            · simp only [Act.put, List.setIfInBounds_toArray, List.set_cons_zero, List.set_cons_succ, i64_w, i32_w]
              rfl
            refine take_ (i := 4) (N := some 16) (v := ?_) (a' := ?_) #[true, true, true, true, true, true, false, false] rfl rfl (take_ofW HT_.out HW_.out (by kernel_rfl)) (fun _ _ _ h => h) (Or.inl ⟨by rfl, ?_⟩) hHeld ?_ ?_
            rotate_left
            · rintro w' ⟨s0, s1, s2⟩
              go_simp
              with_reducible rfl
            rotate_left
            · simp only [Act.put, List.setIfInBounds_toArray, List.set_cons_zero, List.set_cons_succ, i64_w, i32_w]
              rfl
            refine one_ (i := 6) (N := some 18) #[true, true, true, true, true, true, true, false] rfl rfl (one_of HT_.out (by kernel_rfl)) (by decide) (fun K hK => ?_)
            refine goes_ Try.func48 (by kernel_rfl) rfl #[.int .i64 x1_1] (by rfl) rfl rfl gA ?_
            with_reducible refine (laws_markText.calls k1 x1_1 t493 _ A5.out).mono ?_
            rintro e w16 ⟨rfl, hb⟩
            refine ⟨_, rfl, ?_⟩
            have n0_ := Aside0.mk (below_step (w := w) bW hb)
            clear HB
            have HB := n0_
            clear n0_
            (try clear hb)
            (try clear hb2)
            (try clear hk)
            (try clear hi)
            refine hK.out _ _ ⟨((HB.out.cell (World.block_lt_of_cell? w _ hw492_0)).trans hw492_0), ((HB.out.cell (World.block_lt_of_cell? w _ hw492_1)).trans hw492_1), ((HB.out.cell (World.block_lt_of_cell? w _ hw492_2)).trans hw492_2)⟩ (fun hHeld => ?_)
            clear hK K
            refine norm_ (a' := ?_) ?_ ?_
            rotate_left
            · show Act.put _ (some 18) _ = _
              simp only [Act.put, List.setIfInBounds_toArray, List.set_cons_zero, List.set_cons_succ, i64_w, i32_w]
              rfl
            refine pure_ (i := 7) (N := some 19) (v := ?_) (a' := ?_) #[true, true, true, true, true, true, true, true] rfl rfl (any_of HT_.out (by kernel_rfl)) (fun _ _ _ h => h) (Or.inl ⟨by rfl, ?_⟩) ?_ ?_
            rotate_left
            · intro w'
              go_simp
              with_reducible rfl
            rotate_left
            · simp only [Act.put, List.setIfInBounds_toArray, List.set_cons_zero, List.set_cons_succ, i64_w, i32_w]
              rfl
            refine done_ (done_of HT_.out (by kernel_rfl)) ?_
            try go_wp2
            go_ret
            exact ⟨rE, bW⟩
        · rw [if_neg c4] at H
          exact absurd H (by simp)
      · rw [if_neg c3] at H
        have c3b0 : decide (x5_1 < (l0.length : Int)) = false := decide_eq_false c3
        clear c3
        obtain rfl := Option.some.inj H
        go_wp2
        go_ret
        exact ⟨rE, bW⟩
end Go.Proofs.Ytjkddaokhmflbaa.Q
end

section
namespace Go.Proofs.Ytjkddaokhmflbaa.Q
open Go.RowKit Go.Proofs.YtjkddaokhmflbaaW.PrintWords Go.Proofs.YtjkddaokhmflbaaW.PrintLast Go.Proofs.YtjkddaokhmflbaaW.PrintMore
attribute [local go_sem] max2_int min2_int max_two min_two max_three min_three max_four min_four   -- for this text's walks alone
set_option linter.unusedVariables false
set_option linter.unusedSimpArgs false
attribute [local go_sem] bin_leq bin_gtr bin_geq
def laws_heldWishS.l0 : Nat → List (S94) → Int → Int → Option (Int)
  | 0, _, _, _ => none
  | k + 1, x0, x1, x5 => if x5 < (x0.length : Int) then (if 0 ≤ x5 then (if ((rd_T94 x0 x5).f0) = x1 then ((laws_markText.f k (wrap64 (x1 + 1))).bind fun t498 => (if ((rd_T94 x0 x5).f1).toList = t498.toList then ((laws_markText.f k (wrap64 ((wrap64 (x1 + 1)) + 1))).bind fun t500 => (if ((rd_T94 x0 x5).f2).toList = t500.toList then ((laws_markText.f k (wrap64 ((wrap64 ((wrap64 (x1 + 1)) + 1)) + 1))).bind fun t502 => (if ((rd_T94 x0 x5).f3).toList = t502.toList then ((laws_heldEditS.f k ((rd_T94 x0 x5).f4) (wrap64 ((wrap64 ((wrap64 ((wrap64 (x1 + 1)) + 1)) + 1)) + 1))).bind fun t504 => (if t504 < 0 then (some (-1)) else (laws_heldWishS.l0 k x0 t504 (wrap64 (x5 + 1))))) else (some (-1)))) else (some (-1)))) else (some (-1)))) else (some (-1))) else (none)) else (some x1)
def laws_heldWishS.f (k : Nat) (l0 : List (S94)) (a1 : Int) : Option (Int) := laws_heldWishS.l0 k l0 a1 0
def laws_heldWishS.T7 : Bool × List (List Nat × List Nat) := (true, [([], []), ([], []), ([0, 1], [0, 1]), ([2], [2]), ([3], [3]), ([], []), ([5], [5]), ([4, 6], [4, 6])])
def laws_heldWishS.B7 : List Nat := [0, 0, 3, 7, 15, 0, 32, 127]
theorem laws_heldWishS.tab7 : rtab .any (opsOf Try.f63 7) = laws_heldWishS.T7 := by kernel_rfl
theorem laws_heldWishS.bits7 : waitsOk laws_heldWishS.T7.2 laws_heldWishS.B7 = true := by kernel_rfl
def laws_heldWishS.T10 : Bool × List (List Nat × List Nat) := (true, [([], []), ([], []), ([0, 1], [0, 1]), ([2], [2]), ([3], [3]), ([], []), ([5], [5]), ([4, 6], [4, 6])])
def laws_heldWishS.B10 : List Nat := [0, 0, 3, 7, 15, 0, 32, 127]
theorem laws_heldWishS.tab10 : rtab .any (opsOf Try.f63 10) = laws_heldWishS.T10 := by kernel_rfl
theorem laws_heldWishS.bits10 : waitsOk laws_heldWishS.T10.2 laws_heldWishS.B10 = true := by kernel_rfl
def laws_heldWishS.T13 : Bool × List (List Nat × List Nat) := (true, [([], []), ([], []), ([0, 1], [0, 1]), ([2], [2]), ([3], [3]), ([], []), ([5], [5]), ([4, 6], [4, 6])])
def laws_heldWishS.B13 : List Nat := [0, 0, 3, 7, 15, 0, 32, 127]
theorem laws_heldWishS.tab13 : rtab .any (opsOf Try.f63 13) = laws_heldWishS.T13 := by kernel_rfl
theorem laws_heldWishS.bits13 : waitsOk laws_heldWishS.T13.2 laws_heldWishS.B13 = true := by kernel_rfl
set_option maxHeartbeats 8000000 in
set_option maxRecDepth 100000 in
theorem laws_heldWishS.calls (k : Nat) (A0 : Option Addr) (c0 : Nat) (l0 : List (S94)) (a1 : Int) (r : Int) (w : World) (hr0 : Kd.C k94 w A0 l0.length l0) (hc0 : l0.length ≤ c0) (h : laws_heldWishS.f k l0 a1 = some r) :
    Calls Try.prog 63 #[.slice A0 l0.length c0, .int .i64 a1] w fun e w' => e = .returned (.int .i64 r) ∧ Below w.heap.size w w' := by
  have HR0 := Aside0.mk hr0
  have HC0 := Aside0.mk hc0
  clear hr0 hc0
  have HB := Aside0.mk (Below.refl w.heap.size w)
  have H : (laws_heldWishS.l0 k l0 a1 0) = some r := h
  clear h
  have H' := Aside0.mk H
  clear H
  go_enter Try.func63, Try.ntmps63
  go_wp2
  go_loopg [1, 5] k (fun kq v1 v5 w' => ∃ (x1_1 : Int) (x5_1 : Int), v1 = .int .i64 x1_1 ∧ v5 = .int .i64 x5_1 ∧ Aside0 (laws_heldWishS.l0 kq l0 x1_1 x5_1 = some r) ∧ Aside0 (kq ≤ k) ∧ Aside0 (Below w.heap.size w w'))
  case atStart => exact ⟨(a1), (0), vE, vE, H', ⟨Nat.le_refl _⟩, ⟨bW⟩⟩
  case round =>
    clear H'
    try clear p2
    obtain ⟨x1_1, x5_1, rfl, rfl, HA, HK1, HB⟩ := hrel
    cases gk with
    | zero => exact absurd HA.out (by simp [laws_heldWishS.l0])
    | succ k1 =>
      have H := HA.out
      clear HA
      simp only [laws_heldWishS.l0] at H
      by_cases c3 : x5_1 < (l0.length : Int)
      · rw [if_pos c3] at H
        have c3b0 : decide (x5_1 < (l0.length : Int)) = true := decide_eq_true c3
        clear c3
        by_cases c4 : 0 ≤ x5_1
        · rw [if_pos c4] at H
          have c4b0 : decide (0 ≤ x5_1) = true := decide_eq_true c4
          clear c4
          by_cases c5 : ((rd_T94 l0 x5_1).f0) = x1_1
          · rw [if_pos c5] at H
            have c5b0 : (((rd_T94 l0 x5_1).f0) == x1_1) = true := beq_iff_eq.mpr c5
            have c5b1 : (((rd_T94 l0 x5_1).f0) != x1_1) = false := bne_eq_false_iff_eq.mpr c5
            clear c5
            replace H := Option.bind_eq_some_iff.mp H
            obtain ⟨t498, A60, H⟩ := H
            replace H : (if ((rd_T94 l0 x5_1).f1).toList = t498.toList then ((laws_markText.f k1 (wrap64 ((wrap64 (x1_1 + 1)) + 1))).bind fun t500 => (if ((rd_T94 l0 x5_1).f2).toList = t500.toList then ((laws_markText.f k1 (wrap64 ((wrap64 ((wrap64 (x1_1 + 1)) + 1)) + 1))).bind fun t502 => (if ((rd_T94 l0 x5_1).f3).toList = t502.toList then ((laws_heldEditS.f k1 ((rd_T94 l0 x5_1).f4) (wrap64 ((wrap64 ((wrap64 ((wrap64 (x1_1 + 1)) + 1)) + 1)) + 1))).bind fun t504 => (if t504 < 0 then (some (-1)) else (laws_heldWishS.l0 k1 l0 t504 (wrap64 (x5_1 + 1))))) else (some (-1)))) else (some (-1)))) else (some (-1))) = some r := H
            have A6 := Aside0.mk A60
            clear A60
            by_cases c7 : ((rd_T94 l0 x5_1).f1).toList = t498.toList
            · rw [if_pos c7] at H
              have c7b0 : (((rd_T94 l0 x5_1).f1).toList == t498.toList) = true := beq_iff_eq.mpr c7
              have c7b1 : (((rd_T94 l0 x5_1).f1).toList != t498.toList) = false := bne_eq_false_iff_eq.mpr c7
              clear c7
              replace H := Option.bind_eq_some_iff.mp H
              obtain ⟨t500, A80, H⟩ := H
              replace H : (if ((rd_T94 l0 x5_1).f2).toList = t500.toList then ((laws_markText.f k1 (wrap64 ((wrap64 ((wrap64 (x1_1 + 1)) + 1)) + 1))).bind fun t502 => (if ((rd_T94 l0 x5_1).f3).toList = t502.toList then ((laws_heldEditS.f k1 ((rd_T94 l0 x5_1).f4) (wrap64 ((wrap64 ((wrap64 ((wrap64 (x1_1 + 1)) + 1)) + 1)) + 1))).bind fun t504 => (if t504 < 0 then (some (-1)) else (laws_heldWishS.l0 k1 l0 t504 (wrap64 (x5_1 + 1))))) else (some (-1)))) else (some (-1))) = some r := H
              have A8 := Aside0.mk A80
              clear A80
              by_cases c9 : ((rd_T94 l0 x5_1).f2).toList = t500.toList
              · rw [if_pos c9] at H
                have c9b0 : (((rd_T94 l0 x5_1).f2).toList == t500.toList) = true := beq_iff_eq.mpr c9
                have c9b1 : (((rd_T94 l0 x5_1).f2).toList != t500.toList) = false := bne_eq_false_iff_eq.mpr c9
                clear c9
                replace H := Option.bind_eq_some_iff.mp H
                obtain ⟨t502, A100, H⟩ := H
                replace H : (if ((rd_T94 l0 x5_1).f3).toList = t502.toList then ((laws_heldEditS.f k1 ((rd_T94 l0 x5_1).f4) (wrap64 ((wrap64 ((wrap64 ((wrap64 (x1_1 + 1)) + 1)) + 1)) + 1))).bind fun t504 => (if t504 < 0 then (some (-1)) else (laws_heldWishS.l0 k1 l0 t504 (wrap64 (x5_1 + 1))))) else (some (-1))) = some r := H
                have A10 := Aside0.mk A100
                clear A100
                by_cases c11 : ((rd_T94 l0 x5_1).f3).toList = t502.toList
                · rw [if_pos c11] at H
                  have c11b0 : (((rd_T94 l0 x5_1).f3).toList == t502.toList) = true := beq_iff_eq.mpr c11
                  have c11b1 : (((rd_T94 l0 x5_1).f3).toList != t502.toList) = false := bne_eq_false_iff_eq.mpr c11
                  clear c11
                  replace H := Option.bind_eq_some_iff.mp H
                  obtain ⟨t504, A120, H⟩ := H
                  replace H : (if t504 < 0 then (some (-1)) else (laws_heldWishS.l0 k1 l0 t504 (wrap64 (x5_1 + 1)))) = some r := H
                  have A12 := Aside0.mk A120
                  clear A120
                  by_cases c13 : t504 < 0
                  · rw [if_pos c13] at H
                    have c13b0 : decide (t504 < 0) = true := decide_eq_true c13
                    clear c13
                    obtain rfl := Option.some.inj H
                    have p496 : 0 ≤ (x5_1 : Int) := odt
                    have q496 : x5_1 < (l0.length : Int) := odt
                    obtain ⟨ad496, A496_4, c496_4, e496, hx496_0, hx496_1, hx496_2, hx496_3, hx496_4, hl496_4, hi496_4⟩ := at_T94 HR0.out x5_1 p496 q496
                    cases e496
                    replace hx496_0 := (HB.out.cell (World.block_lt_of_cell? w _ hx496_0)).trans hx496_0
                    replace hx496_1 := (HB.out.cell (World.block_lt_of_cell? w _ hx496_1)).trans hx496_1
                    replace hx496_2 := (HB.out.cell (World.block_lt_of_cell? w _ hx496_2)).trans hx496_2
                    replace hx496_3 := (HB.out.cell (World.block_lt_of_cell? w _ hx496_3)).trans hx496_3
                    replace hx496_4 := (HB.out.cell (World.block_lt_of_cell? w _ hx496_4)).trans hx496_4
                    have HR496_4 := Aside0.mk hi496_4
                    have HC496_4 := Aside0.mk hl496_4
                    clear hi496_4 hl496_4
                    replace p496 := eq_true p496
                    replace q496 := eq_true q496
                    try go_wp2
                    have n0_ := Aside0.mk (below_drew1 HB.out)
                    clear HB
                    have HB := n0_
                    clear n0_
                    have p497 : 0 ≤ (x5_1 : Int) := odt
                    have q497 : x5_1 < (l0.length : Int) := odt
                    obtain ⟨ad497, A497_4, c497_4, e497, hx497_0, hx497_1, hx497_2, hx497_3, hx497_4, hl497_4, hi497_4⟩ := at_T94 HR0.out x5_1 p497 q497
                    (try clear hx496_4 hw496_4); (try clear hx496_4)
                    (try clear hHeld)
                    have hw497_4 := hx497_4
                    have hw497_3 := hx497_3
                    have hw497_2 := hx497_2
                    have hw497_1 := hx497_1
                    have hw497_0 := hx497_0
                    obtain rfl : ad496 = ad497 := (by injection e497)
                    replace hx497_0 := (HB.out.cell (World.block_lt_of_cell? w _ hx497_0)).trans hx497_0
                    replace hx497_1 := (HB.out.cell (World.block_lt_of_cell? w _ hx497_1)).trans hx497_1
                    replace hx497_2 := (HB.out.cell (World.block_lt_of_cell? w _ hx497_2)).trans hx497_2
                    replace hx497_3 := (HB.out.cell (World.block_lt_of_cell? w _ hx497_3)).trans hx497_3
                    replace hx497_4 := (HB.out.cell (World.block_lt_of_cell? w _ hx497_4)).trans hx497_4
                    have HR497_4 := Aside0.mk hi497_4
                    have HC497_4 := Aside0.mk hl497_4
                    clear hi497_4 hl497_4
                    replace p497 := eq_true p497
                    replace q497 := eq_true q497
                    refine start_ (n := 8) (S := fun w' => w'.cell? (ad496.add ((x5_1).toNat * 5)) = some (.int .i64 ((rd_T94 l0 x5_1).f0)) ∧ w'.cell? ⟨(ad496.add ((x5_1).toNat * 5)).block, (ad496.add ((x5_1).toNat * 5)).off + 1, none⟩ = some (.string ((rd_T94 l0 x5_1).f1)) ∧ w'.cell? ⟨(ad496.add ((x5_1).toNat * 5)).block, (ad496.add ((x5_1).toNat * 5)).off + 2, none⟩ = some (.string ((rd_T94 l0 x5_1).f2)) ∧ w'.cell? ⟨(ad496.add ((x5_1).toNat * 5)).block, (ad496.add ((x5_1).toNat * 5)).off + 3, none⟩ = some (.string ((rd_T94 l0 x5_1).f3)) ∧ w'.cell? ⟨(ad496.add ((x5_1).toNat * 5)).block, (ad496.add ((x5_1).toNat * 5)).off + 4, none⟩ = some (.slice A497_4 ((rd_T94 l0 x5_1).f4).length c497_4)) (ds := []) #[false, false, false, false, false, false, false, false] (by kernel_rfl) rfl rfl ⟨((HB.out.cell (World.block_lt_of_cell? w _ hw497_0)).trans hw497_0), ((HB.out.cell (World.block_lt_of_cell? w _ hw497_1)).trans hw497_1), ((HB.out.cell (World.block_lt_of_cell? w _ hw497_2)).trans hw497_2), ((HB.out.cell (World.block_lt_of_cell? w _ hw497_3)).trans hw497_3), ((HB.out.cell (World.block_lt_of_cell? w _ hw497_4)).trans hw497_4)⟩ (fun hHeld => ?_); refine with_tabW laws_heldWishS.tab7 laws_heldWishS.bits7 (fun HT_ HW_ => ?_)
                    generalize wr.drew = w14 at HB HR497_4 hx497_0 hx497_1 hx497_2 hx497_3 hx497_4 hHeld ⊢
                    refine pure_ (i := 0) (N := some 21) (v := ?_) (a' := ?_) #[true, false, false, false, false, false, false, false] rfl rfl (any_of HT_.out (by kernel_rfl)) (fun _ _ _ h => h) (Or.inl ⟨by rfl, ?_⟩) ?_ ?_; rotate_left; (focus intro w'; go_simp; with_reducible rfl); rotate_left; (focus simp only [pt, i64_w, i32_w]; rfl)
                    refine pure_ (i := 1) (N := some 22) (v := ?_) (a' := ?_) #[true, true, false, false, false, false, false, false] rfl rfl (any_of HT_.out (by kernel_rfl)) (fun _ _ _ h => h) (Or.inl ⟨by rfl, ?_⟩) ?_ ?_; rotate_left; (focus intro w'; go_simp; with_reducible rfl); rotate_left; (focus simp only [pt, i64_w, i32_w]; rfl)
                    refine pure_ (i := 2) (N := some 23) (v := ?_) (a' := ?_) #[true, true, true, false, false, false, false, false] rfl rfl (any_of HT_.out (by kernel_rfl)) (fun _ _ _ h => h) (Or.inl ⟨by rfl, ?_⟩) ?_ ?_; rotate_left; (focus intro w'; go_simp; with_reducible rfl); rotate_left; (focus simp only [pt, i64_w, i32_w]; rfl)
                    refine pure_ (i := 3) (N := some 24) (v := ?_) (a' := ?_) #[true, true, true, true, false, false, false, false] rfl rfl (any_of HT_.out (by kernel_rfl)) (fun _ _ _ h => h) (Or.inl ⟨by rfl, ?_⟩) ?_ ?_; rotate_left; (focus intro w'; go_simp; with_reducible rfl); rotate_left; (focus simp only [pt, i64_w, i32_w]; rfl)
                    refine pure_ (i := 5) (N := some 26) (v := ?_) (a' := ?_) #[true, true, true, true, false, true, false, false] rfl rfl (any_of HT_.out (by kernel_rfl)) (fun _ _ _ h => h) (Or.inl ⟨by rfl, ?_⟩) ?_ ?_; rotate_left; (focus intro w'; go_simp; with_reducible rfl); rotate_left; (focus simp only [pt, i64_w, i32_w]; rfl)
                    refine take_ (i := 4) (N := some 25) (v := ?_) (a' := ?_) #[true, true, true, true, true, true, false, false] rfl rfl (take_ofW HT_.out HW_.out (by kernel_rfl)) (fun _ _ _ h => h) (Or.inl ⟨by rfl, ?_⟩) hHeld ?_ ?_; rotate_left; (focus rintro w' ⟨s0, s1, s2, s3, s4⟩; go_simp; with_reducible rfl); rotate_left; (focus simp only [pt, i64_w, i32_w]; rfl)
                    refine one_ (i := 6) (N := some 27) #[true, true, true, true, true, true, true, false] rfl rfl (one_of HT_.out (by kernel_rfl)) (by decide) (fun K hK => ?_)
                    refine goes_ Try.func48 (by kernel_rfl) rfl #[.int .i64 (wrap64 (x1_1 + 1))] (by rfl) rfl rfl gA ?_
                    with_reducible refine (laws_markText.calls k1 (wrap64 (x1_1 + 1)) t498 _ A6.out).mono ?_
                    rintro e w15 ⟨rfl, hb⟩
                    refine ⟨_, rfl, ?_⟩
                    have n0_ := Aside0.mk (below_step (w := w) bW hb)
                    clear HB
                    have HB := n0_
                    clear n0_
                    (try clear hb)
                    (try clear hb2)
                    (try clear hk)
                    (try clear hi)
                    refine hK.out _ _ ⟨((HB.out.cell (World.block_lt_of_cell? w _ hw497_0)).trans hw497_0), ((HB.out.cell (World.block_lt_of_cell? w _ hw497_1)).trans hw497_1), ((HB.out.cell (World.block_lt_of_cell? w _ hw497_2)).trans hw497_2), ((HB.out.cell (World.block_lt_of_cell? w _ hw497_3)).trans hw497_3), ((HB.out.cell (World.block_lt_of_cell? w _ hw497_4)).trans hw497_4)⟩ (fun hHeld => ?_)
                    clear hK K
                    refine norm_ (a' := ?_) ?_ ?_
                    rotate_left
                    · show Act.put _ (some 27) _ = _
                      simp only [Act.put, List.setIfInBounds_toArray, List.set_cons_zero, List.set_cons_succ, i64_w, i32_w]
                      rfl
                    refine pure_ (i := 7) (N := some 28) (v := ?_) (a' := ?_) #[true, true, true, true, true, true, true, true] rfl rfl (any_of HT_.out (by kernel_rfl)) (fun _ _ _ h => h) (Or.inl ⟨by rfl, ?_⟩) ?_ ?_; rotate_left; (focus intro w'; go_simp; with_reducible rfl); rotate_left; (focus simp only [pt, i64_w, i32_w]; rfl)
                    refine done_ (done_of HT_.out (by kernel_rfl)) ?_
                    try go_wp2
                    have n0_ := Aside0.mk (below_drew1 HB.out)
                    clear HB
                    have HB := n0_
                    clear n0_
                    have p499 : 0 ≤ (x5_1 : Int) := odt
                    have q499 : x5_1 < (l0.length : Int) := odt
                    obtain ⟨ad499, A499_4, c499_4, e499, hx499_0, hx499_1, hx499_2, hx499_3, hx499_4, hl499_4, hi499_4⟩ := at_T94 HR0.out x5_1 p499 q499
                    (try clear hx496_4 hw496_4); (try clear hx496_4)
                    (try clear hx497_4 hw497_4); (try clear hx497_4)
                    (try clear hHeld)
                    have hw499_4 := hx499_4
                    have hw499_3 := hx499_3
                    have hw499_2 := hx499_2
                    have hw499_1 := hx499_1
                    have hw499_0 := hx499_0
                    obtain rfl : ad496 = ad499 := (by injection e499)
                    replace hx499_0 := (HB.out.cell (World.block_lt_of_cell? w _ hx499_0)).trans hx499_0
                    replace hx499_1 := (HB.out.cell (World.block_lt_of_cell? w _ hx499_1)).trans hx499_1
                    replace hx499_2 := (HB.out.cell (World.block_lt_of_cell? w _ hx499_2)).trans hx499_2
                    replace hx499_3 := (HB.out.cell (World.block_lt_of_cell? w _ hx499_3)).trans hx499_3
                    replace hx499_4 := (HB.out.cell (World.block_lt_of_cell? w _ hx499_4)).trans hx499_4
                    have HR499_4 := Aside0.mk hi499_4
                    have HC499_4 := Aside0.mk hl499_4
                    clear hi499_4 hl499_4
                    replace p499 := eq_true p499
                    replace q499 := eq_true q499
                    refine start_ (n := 8) (S := fun w' => w'.cell? (ad496.add ((x5_1).toNat * 5)) = some (.int .i64 ((rd_T94 l0 x5_1).f0)) ∧ w'.cell? ⟨(ad496.add ((x5_1).toNat * 5)).block, (ad496.add ((x5_1).toNat * 5)).off + 1, none⟩ = some (.string ((rd_T94 l0 x5_1).f1)) ∧ w'.cell? ⟨(ad496.add ((x5_1).toNat * 5)).block, (ad496.add ((x5_1).toNat * 5)).off + 2, none⟩ = some (.string ((rd_T94 l0 x5_1).f2)) ∧ w'.cell? ⟨(ad496.add ((x5_1).toNat * 5)).block, (ad496.add ((x5_1).toNat * 5)).off + 3, none⟩ = some (.string ((rd_T94 l0 x5_1).f3)) ∧ w'.cell? ⟨(ad496.add ((x5_1).toNat * 5)).block, (ad496.add ((x5_1).toNat * 5)).off + 4, none⟩ = some (.slice A499_4 ((rd_T94 l0 x5_1).f4).length c499_4)) (ds := []) #[false, false, false, false, false, false, false, false] (by kernel_rfl) rfl rfl ⟨((HB.out.cell (World.block_lt_of_cell? w _ hw499_0)).trans hw499_0), ((HB.out.cell (World.block_lt_of_cell? w _ hw499_1)).trans hw499_1), ((HB.out.cell (World.block_lt_of_cell? w _ hw499_2)).trans hw499_2), ((HB.out.cell (World.block_lt_of_cell? w _ hw499_3)).trans hw499_3), ((HB.out.cell (World.block_lt_of_cell? w _ hw499_4)).trans hw499_4)⟩ (fun hHeld => ?_); refine with_tabW laws_heldWishS.tab10 laws_heldWishS.bits10 (fun HT_ HW_ => ?_)
                    generalize w15.drew = w16 at HB HR499_4 hx499_0 hx499_1 hx499_2 hx499_3 hx499_4 hHeld ⊢
                    refine pure_ (i := 0) (N := some 31) (v := ?_) (a' := ?_) #[true, false, false, false, false, false, false, false] rfl rfl (any_of HT_.out (by kernel_rfl)) (fun _ _ _ h => h) (Or.inl ⟨by rfl, ?_⟩) ?_ ?_; rotate_left; (focus intro w'; go_simp; with_reducible rfl); rotate_left; (focus simp only [pt, i64_w, i32_w]; rfl)
                    refine pure_ (i := 1) (N := some 32) (v := ?_) (a' := ?_) #[true, true, false, false, false, false, false, false] rfl rfl (any_of HT_.out (by kernel_rfl)) (fun _ _ _ h => h) (Or.inl ⟨by rfl, ?_⟩) ?_ ?_; rotate_left; (focus intro w'; go_simp; with_reducible rfl); rotate_left; (focus simp only [pt, i64_w, i32_w]; rfl)
                    refine pure_ (i := 2) (N := some 33) (v := ?_) (a' := ?_) #[true, true, true, false, false, false, false, false] rfl rfl (any_of HT_.out (by kernel_rfl)) (fun _ _ _ h => h) (Or.inl ⟨by rfl, ?_⟩) ?_ ?_; rotate_left; (focus intro w'; go_simp; with_reducible rfl); rotate_left; (focus simp only [pt, i64_w, i32_w]; rfl)
                    refine pure_ (i := 3) (N := some 34) (v := ?_) (a' := ?_) #[true, true, true, true, false, false, false, false] rfl rfl (any_of HT_.out (by kernel_rfl)) (fun _ _ _ h => h) (Or.inl ⟨by rfl, ?_⟩) ?_ ?_; rotate_left; (focus intro w'; go_simp; with_reducible rfl); rotate_left; (focus simp only [pt, i64_w, i32_w]; rfl)
                    refine pure_ (i := 5) (N := some 36) (v := ?_) (a' := ?_) #[true, true, true, true, false, true, false, false] rfl rfl (any_of HT_.out (by kernel_rfl)) (fun _ _ _ h => h) (Or.inl ⟨by rfl, ?_⟩) ?_ ?_; rotate_left; (focus intro w'; go_simp; with_reducible rfl); rotate_left; (focus simp only [pt, i64_w, i32_w]; rfl)
                    refine take_ (i := 4) (N := some 35) (v := ?_) (a' := ?_) #[true, true, true, true, true, true, false, false] rfl rfl (take_ofW HT_.out HW_.out (by kernel_rfl)) (fun _ _ _ h => h) (Or.inl ⟨by rfl, ?_⟩) hHeld ?_ ?_; rotate_left; (focus rintro w' ⟨s0, s1, s2, s3, s4⟩; go_simp; with_reducible rfl); rotate_left; (focus simp only [pt, i64_w, i32_w]; rfl)
                    refine one_ (i := 6) (N := some 37) #[true, true, true, true, true, true, true, false] rfl rfl (one_of HT_.out (by kernel_rfl)) (by decide) (fun K hK => ?_)
                    refine goes_ Try.func48 (by kernel_rfl) rfl #[.int .i64 (wrap64 ((wrap64 (x1_1 + 1)) + 1))] (by rfl) rfl rfl gA ?_
                    with_reducible refine (laws_markText.calls k1 (wrap64 ((wrap64 (x1_1 + 1)) + 1)) t500 _ A8.out).mono ?_
                    rintro e w17 ⟨rfl, hb⟩
                    refine ⟨_, rfl, ?_⟩
                    have n0_ := Aside0.mk (below_step (w := w) bW hb)
                    clear HB
                    have HB := n0_
                    clear n0_
                    (try clear hb)
                    (try clear hb2)
                    (try clear hk)
                    (try clear hi)
                    refine hK.out _ _ ⟨((HB.out.cell (World.block_lt_of_cell? w _ hw499_0)).trans hw499_0), ((HB.out.cell (World.block_lt_of_cell? w _ hw499_1)).trans hw499_1), ((HB.out.cell (World.block_lt_of_cell? w _ hw499_2)).trans hw499_2), ((HB.out.cell (World.block_lt_of_cell? w _ hw499_3)).trans hw499_3), ((HB.out.cell (World.block_lt_of_cell? w _ hw499_4)).trans hw499_4)⟩ (fun hHeld => ?_)
                    clear hK K
                    refine norm_ (a' := ?_) ?_ ?_
                    rotate_left
                    · show Act.put _ (some 37) _ = _
                      simp only [Act.put, List.setIfInBounds_toArray, List.set_cons_zero, List.set_cons_succ, i64_w, i32_w]
                      rfl
                    refine pure_ (i := 7) (N := some 38) (v := ?_) (a' := ?_) #[true, true, true, true, true, true, true, true] rfl rfl (any_of HT_.out (by kernel_rfl)) (fun _ _ _ h => h) (Or.inl ⟨by rfl, ?_⟩) ?_ ?_; rotate_left; (focus intro w'; go_simp; with_reducible rfl); rotate_left; (focus simp only [pt, i64_w, i32_w]; rfl)
                    refine done_ (done_of HT_.out (by kernel_rfl)) ?_
                    try go_wp2
                    have n0_ := Aside0.mk (below_drew1 HB.out)
                    clear HB
                    have HB := n0_
                    clear n0_
                    have p501 : 0 ≤ (x5_1 : Int) := odt
                    have q501 : x5_1 < (l0.length : Int) := odt
                    obtain ⟨ad501, A501_4, c501_4, e501, hx501_0, hx501_1, hx501_2, hx501_3, hx501_4, hl501_4, hi501_4⟩ := at_T94 HR0.out x5_1 p501 q501
                    (try clear hx496_4 hw496_4); (try clear hx496_4)
                    (try clear hx497_4 hw497_4); (try clear hx497_4)
                    (try clear hx499_4 hw499_4); (try clear hx499_4)
                    (try clear hHeld)
                    have hw501_4 := hx501_4
                    have hw501_3 := hx501_3
                    have hw501_2 := hx501_2
                    have hw501_1 := hx501_1
                    have hw501_0 := hx501_0
                    obtain rfl : ad496 = ad501 := (by injection e501)
                    replace hx501_0 := (HB.out.cell (World.block_lt_of_cell? w _ hx501_0)).trans hx501_0
                    replace hx501_1 := (HB.out.cell (World.block_lt_of_cell? w _ hx501_1)).trans hx501_1
                    replace hx501_2 := (HB.out.cell (World.block_lt_of_cell? w _ hx501_2)).trans hx501_2
                    replace hx501_3 := (HB.out.cell (World.block_lt_of_cell? w _ hx501_3)).trans hx501_3
                    replace hx501_4 := (HB.out.cell (World.block_lt_of_cell? w _ hx501_4)).trans hx501_4
                    have HR501_4 := Aside0.mk hi501_4
                    have HC501_4 := Aside0.mk hl501_4
                    clear hi501_4 hl501_4
                    replace p501 := eq_true p501
                    replace q501 := eq_true q501
                    refine start_ (n := 8) (S := fun w' => w'.cell? (ad496.add ((x5_1).toNat * 5)) = some (.int .i64 ((rd_T94 l0 x5_1).f0)) ∧ w'.cell? ⟨(ad496.add ((x5_1).toNat * 5)).block, (ad496.add ((x5_1).toNat * 5)).off + 1, none⟩ = some (.string ((rd_T94 l0 x5_1).f1)) ∧ w'.cell? ⟨(ad496.add ((x5_1).toNat * 5)).block, (ad496.add ((x5_1).toNat * 5)).off + 2, none⟩ = some (.string ((rd_T94 l0 x5_1).f2)) ∧ w'.cell? ⟨(ad496.add ((x5_1).toNat * 5)).block, (ad496.add ((x5_1).toNat * 5)).off + 3, none⟩ = some (.string ((rd_T94 l0 x5_1).f3)) ∧ w'.cell? ⟨(ad496.add ((x5_1).toNat * 5)).block, (ad496.add ((x5_1).toNat * 5)).off + 4, none⟩ = some (.slice A501_4 ((rd_T94 l0 x5_1).f4).length c501_4)) (ds := []) #[false, false, false, false, false, false, false, false] (by kernel_rfl) rfl rfl ⟨((HB.out.cell (World.block_lt_of_cell? w _ hw501_0)).trans hw501_0), ((HB.out.cell (World.block_lt_of_cell? w _ hw501_1)).trans hw501_1), ((HB.out.cell (World.block_lt_of_cell? w _ hw501_2)).trans hw501_2), ((HB.out.cell (World.block_lt_of_cell? w _ hw501_3)).trans hw501_3), ((HB.out.cell (World.block_lt_of_cell? w _ hw501_4)).trans hw501_4)⟩ (fun hHeld => ?_); refine with_tabW laws_heldWishS.tab13 laws_heldWishS.bits13 (fun HT_ HW_ => ?_)
                    generalize w17.drew = w18 at HB HR501_4 hx501_0 hx501_1 hx501_2 hx501_3 hx501_4 hHeld ⊢
                    refine pure_ (i := 0) (N := some 41) (v := ?_) (a' := ?_) #[true, false, false, false, false, false, false, false] rfl rfl (any_of HT_.out (by kernel_rfl)) (fun _ _ _ h => h) (Or.inl ⟨by rfl, ?_⟩) ?_ ?_; rotate_left; (focus intro w'; go_simp; with_reducible rfl); rotate_left; (focus simp only [pt, i64_w, i32_w]; rfl)
                    refine pure_ (i := 1) (N := some 42) (v := ?_) (a' := ?_) #[true, true, false, false, false, false, false, false] rfl rfl (any_of HT_.out (by kernel_rfl)) (fun _ _ _ h => h) (Or.inl ⟨by rfl, ?_⟩) ?_ ?_; rotate_left; (focus intro w'; go_simp; with_reducible rfl); rotate_left; (focus simp only [pt, i64_w, i32_w]; rfl)
                    refine pure_ (i := 2) (N := some 43) (v := ?_) (a' := ?_) #[true, true, true, false, false, false, false, false] rfl rfl (any_of HT_.out (by kernel_rfl)) (fun _ _ _ h => h) (Or.inl ⟨by rfl, ?_⟩) ?_ ?_; rotate_left; (focus intro w'; go_simp; with_reducible rfl); rotate_left; (focus simp only [pt, i64_w, i32_w]; rfl)
                    refine pure_ (i := 3) (N := some 44) (v := ?_) (a' := ?_) #[true, true, true, true, false, false, false, false] rfl rfl (any_of HT_.out (by kernel_rfl)) (fun _ _ _ h => h) (Or.inl ⟨by rfl, ?_⟩) ?_ ?_; rotate_left; (focus intro w'; go_simp; with_reducible rfl); rotate_left; (focus simp only [pt, i64_w, i32_w]; rfl)
                    refine pure_ (i := 5) (N := some 46) (v := ?_) (a' := ?_) #[true, true, true, true, false, true, false, false] rfl rfl (any_of HT_.out (by kernel_rfl)) (fun _ _ _ h => h) (Or.inl ⟨by rfl, ?_⟩) ?_ ?_; rotate_left; (focus intro w'; go_simp; with_reducible rfl); rotate_left; (focus simp only [pt, i64_w, i32_w]; rfl)
                    refine take_ (i := 4) (N := some 45) (v := ?_) (a' := ?_) #[true, true, true, true, true, true, false, false] rfl rfl (take_ofW HT_.out HW_.out (by kernel_rfl)) (fun _ _ _ h => h) (Or.inl ⟨by rfl, ?_⟩) hHeld ?_ ?_; rotate_left; (focus rintro w' ⟨s0, s1, s2, s3, s4⟩; go_simp; with_reducible rfl); rotate_left; (focus simp only [pt, i64_w, i32_w]; rfl)
                    refine one_ (i := 6) (N := some 47) #[true, true, true, true, true, true, true, false] rfl rfl (one_of HT_.out (by kernel_rfl)) (by decide) (fun K hK => ?_)
                    refine goes_ Try.func48 (by kernel_rfl) rfl #[.int .i64 (wrap64 ((wrap64 ((wrap64 (x1_1 + 1)) + 1)) + 1))] (by rfl) rfl rfl gA ?_
                    with_reducible refine (laws_markText.calls k1 (wrap64 ((wrap64 ((wrap64 (x1_1 + 1)) + 1)) + 1)) t502 _ A10.out).mono ?_
                    rintro e w19 ⟨rfl, hb⟩
                    refine ⟨_, rfl, ?_⟩
                    have n0_ := Aside0.mk (below_step (w := w) bW hb)
                    clear HB
                    have HB := n0_
                    clear n0_
                    (try clear hb)
                    (try clear hb2)
                    (try clear hk)
                    (try clear hi)
                    refine hK.out _ _ ⟨((HB.out.cell (World.block_lt_of_cell? w _ hw501_0)).trans hw501_0), ((HB.out.cell (World.block_lt_of_cell? w _ hw501_1)).trans hw501_1), ((HB.out.cell (World.block_lt_of_cell? w _ hw501_2)).trans hw501_2), ((HB.out.cell (World.block_lt_of_cell? w _ hw501_3)).trans hw501_3), ((HB.out.cell (World.block_lt_of_cell? w _ hw501_4)).trans hw501_4)⟩ (fun hHeld => ?_)
                    clear hK K
                    refine norm_ (a' := ?_) ?_ ?_
                    rotate_left
                    · show Act.put _ (some 47) _ = _
                      simp only [Act.put, List.setIfInBounds_toArray, List.set_cons_zero, List.set_cons_succ, i64_w, i32_w]
                      rfl
                    refine pure_ (i := 7) (N := some 48) (v := ?_) (a' := ?_) #[true, true, true, true, true, true, true, true] rfl rfl (any_of HT_.out (by kernel_rfl)) (fun _ _ _ h => h) (Or.inl ⟨by rfl, ?_⟩) ?_ ?_; rotate_left; (focus intro w'; go_simp; with_reducible rfl); rotate_left; (focus simp only [pt, i64_w, i32_w]; rfl)
                    refine done_ (done_of HT_.out (by kernel_rfl)) ?_
                    have p503 : 0 ≤ (x5_1 : Int) := odt
                    have q503 : x5_1 < (l0.length : Int) := odt
                    obtain ⟨ad503, A503_4, c503_4, e503, hx503_0, hx503_1, hx503_2, hx503_3, hx503_4, hl503_4, hi503_4⟩ := at_T94 HR0.out x5_1 p503 q503
                    (try clear hx496_4 hw496_4); (try clear hx496_4)
                    (try clear hx497_4 hw497_4); (try clear hx497_4)
                    (try clear hx499_4 hw499_4); (try clear hx499_4)
                    (try clear hx501_4 hw501_4); (try clear hx501_4)
                    (try clear hHeld)
                    obtain rfl : ad496 = ad503 := (by injection e503)
                    replace hx503_0 := (HB.out.cell (World.block_lt_of_cell? w _ hx503_0)).trans hx503_0
                    replace hx503_1 := (HB.out.cell (World.block_lt_of_cell? w _ hx503_1)).trans hx503_1
                    replace hx503_2 := (HB.out.cell (World.block_lt_of_cell? w _ hx503_2)).trans hx503_2
                    replace hx503_3 := (HB.out.cell (World.block_lt_of_cell? w _ hx503_3)).trans hx503_3
                    replace hx503_4 := (HB.out.cell (World.block_lt_of_cell? w _ hx503_4)).trans hx503_4
                    have HR503_4 := Aside0.mk hi503_4
                    have HC503_4 := Aside0.mk hl503_4
                    clear hi503_4 hl503_4
                    replace p503 := eq_true p503
                    replace q503 := eq_true q503
                    try go_wp2_with (first | ((with_reducible refine gate_callee (f := 92) rfl ?_); refine goesL_ (some 57) rfl rfl Try.func92 (by kernel_rfl) rfl #[.slice A503_4 ((rd_T94 l0 x5_1).f4).length c503_4, .int .i64 (wrap64 ((wrap64 ((wrap64 ((wrap64 (x1_1 + 1)) + 1)) + 1)) + 1))] rfl gA ?_; (with_reducible refine (laws_heldEditS.calls k1 _ _ ((rd_T94 l0 x5_1).f4) (wrap64 ((wrap64 ((wrap64 ((wrap64 (x1_1 + 1)) + 1)) + 1)) + 1)) t504 _ ?side1 ?side2 A12.out).mono ?_); (case side1 => exact cB HR503_4); (case side2 => exact HC503_4.out); rintro e w20 ⟨rfl, hb⟩; refine ⟨_, rfl, ?_⟩; have n0_ := Aside0.mk (below_step (w := w) bW hb); clear HB; have HB := n0_; clear n0_; (try clear hb); (try clear hb2); (try clear hk); (try clear hi)))
                    go_ret
                    exact ⟨rE, bW⟩
                  · rw [if_neg c13] at H
                    have c13b0 : decide (t504 < 0) = false := decide_eq_false c13
                    clear c13
                    have H' := Aside0.mk H
                    clear H
                    have p496 : 0 ≤ (x5_1 : Int) := odt
                    have q496 : x5_1 < (l0.length : Int) := odt
                    obtain ⟨ad496, A496_4, c496_4, e496, hx496_0, hx496_1, hx496_2, hx496_3, hx496_4, hl496_4, hi496_4⟩ := at_T94 HR0.out x5_1 p496 q496
                    (try clear hx497_4 hw497_4); (try clear hx497_4)
                    (try clear hx499_4 hw499_4); (try clear hx499_4)
                    (try clear hx501_4 hw501_4); (try clear hx501_4)
                    (try clear hx503_4 hw503_4); (try clear hx503_4)
                    (try clear hHeld)
                    cases e496
                    replace hx496_0 := (HB.out.cell (World.block_lt_of_cell? w _ hx496_0)).trans hx496_0
                    replace hx496_1 := (HB.out.cell (World.block_lt_of_cell? w _ hx496_1)).trans hx496_1
                    replace hx496_2 := (HB.out.cell (World.block_lt_of_cell? w _ hx496_2)).trans hx496_2
                    replace hx496_3 := (HB.out.cell (World.block_lt_of_cell? w _ hx496_3)).trans hx496_3
                    replace hx496_4 := (HB.out.cell (World.block_lt_of_cell? w _ hx496_4)).trans hx496_4
                    have HR496_4 := Aside0.mk hi496_4
                    have HC496_4 := Aside0.mk hl496_4
                    clear hi496_4 hl496_4
                    replace p496 := eq_true p496
                    replace q496 := eq_true q496
                    try go_wp2
                    have n0_ := Aside0.mk (below_drew1 HB.out)
                    clear HB
                    have HB := n0_
                    clear n0_
                    have p497 : 0 ≤ (x5_1 : Int) := odt
                    have q497 : x5_1 < (l0.length : Int) := odt
                    obtain ⟨ad497, A497_4, c497_4, e497, hx497_0, hx497_1, hx497_2, hx497_3, hx497_4, hl497_4, hi497_4⟩ := at_T94 HR0.out x5_1 p497 q497
                    (try clear hx496_4 hw496_4); (try clear hx496_4)
                    (try clear hx499_4 hw499_4); (try clear hx499_4)
                    (try clear hx501_4 hw501_4); (try clear hx501_4)
                    (try clear hx503_4 hw503_4); (try clear hx503_4)
                    (try clear hHeld)
                    have hw497_4 := hx497_4
                    have hw497_3 := hx497_3
                    have hw497_2 := hx497_2
                    have hw497_1 := hx497_1
                    have hw497_0 := hx497_0
                    obtain rfl : ad496 = ad497 := (by injection e497)
                    replace hx497_0 := (HB.out.cell (World.block_lt_of_cell? w _ hx497_0)).trans hx497_0
                    replace hx497_1 := (HB.out.cell (World.block_lt_of_cell? w _ hx497_1)).trans hx497_1
                    replace hx497_2 := (HB.out.cell (World.block_lt_of_cell? w _ hx497_2)).trans hx497_2
                    replace hx497_3 := (HB.out.cell (World.block_lt_of_cell? w _ hx497_3)).trans hx497_3
                    replace hx497_4 := (HB.out.cell (World.block_lt_of_cell? w _ hx497_4)).trans hx497_4
                    have HR497_4 := Aside0.mk hi497_4
                    have HC497_4 := Aside0.mk hl497_4
                    clear hi497_4 hl497_4
                    replace p497 := eq_true p497
                    replace q497 := eq_true q497
                    refine start_ (n := 8) (S := fun w' => w'.cell? (ad496.add ((x5_1).toNat * 5)) = some (.int .i64 ((rd_T94 l0 x5_1).f0)) ∧ w'.cell? ⟨(ad496.add ((x5_1).toNat * 5)).block, (ad496.add ((x5_1).toNat * 5)).off + 1, none⟩ = some (.string ((rd_T94 l0 x5_1).f1)) ∧ w'.cell? ⟨(ad496.add ((x5_1).toNat * 5)).block, (ad496.add ((x5_1).toNat * 5)).off + 2, none⟩ = some (.string ((rd_T94 l0 x5_1).f2)) ∧ w'.cell? ⟨(ad496.add ((x5_1).toNat * 5)).block, (ad496.add ((x5_1).toNat * 5)).off + 3, none⟩ = some (.string ((rd_T94 l0 x5_1).f3)) ∧ w'.cell? ⟨(ad496.add ((x5_1).toNat * 5)).block, (ad496.add ((x5_1).toNat * 5)).off + 4, none⟩ = some (.slice A497_4 ((rd_T94 l0 x5_1).f4).length c497_4)) (ds := []) #[false, false, false, false, false, false, false, false] (by kernel_rfl) rfl rfl ⟨((HB.out.cell (World.block_lt_of_cell? w _ hw497_0)).trans hw497_0), ((HB.out.cell (World.block_lt_of_cell? w _ hw497_1)).trans hw497_1), ((HB.out.cell (World.block_lt_of_cell? w _ hw497_2)).trans hw497_2), ((HB.out.cell (World.block_lt_of_cell? w _ hw497_3)).trans hw497_3), ((HB.out.cell (World.block_lt_of_cell? w _ hw497_4)).trans hw497_4)⟩ (fun hHeld => ?_); refine with_tabW laws_heldWishS.tab7 laws_heldWishS.bits7 (fun HT_ HW_ => ?_)
                    generalize wr.drew = w21 at HB HR497_4 hx497_0 hx497_1 hx497_2 hx497_3 hx497_4 hHeld ⊢
                    refine pure_ (i := 0) (N := some 21) (v := ?_) (a' := ?_) #[true, false, false, false, false, false, false, false] rfl rfl (any_of HT_.out (by kernel_rfl)) (fun _ _ _ h => h) (Or.inl ⟨by rfl, ?_⟩) ?_ ?_; rotate_left; (focus intro w'; go_simp; with_reducible rfl); rotate_left; (focus simp only [pt, i64_w, i32_w]; rfl)
                    refine pure_ (i := 1) (N := some 22) (v := ?_) (a' := ?_) #[true, true, false, false, false, false, false, false] rfl rfl (any_of HT_.out (by kernel_rfl)) (fun _ _ _ h => h) (Or.inl ⟨by rfl, ?_⟩) ?_ ?_; rotate_left; (focus intro w'; go_simp; with_reducible rfl); rotate_left; (focus simp only [pt, i64_w, i32_w]; rfl)
                    refine pure_ (i := 2) (N := some 23) (v := ?_) (a' := ?_) #[true, true, true, false, false, false, false, false] rfl rfl (any_of HT_.out (by kernel_rfl)) (fun _ _ _ h => h) (Or.inl ⟨by rfl, ?_⟩) ?_ ?_; rotate_left; (focus intro w'; go_simp; with_reducible rfl); rotate_left; (focus simp only [pt, i64_w, i32_w]; rfl)
                    refine pure_ (i := 3) (N := some 24) (v := ?_) (a' := ?_) #[true, true, true, true, false, false, false, false] rfl rfl (any_of HT_.out (by kernel_rfl)) (fun _ _ _ h => h) (Or.inl ⟨by rfl, ?_⟩) ?_ ?_; rotate_left; (focus intro w'; go_simp; with_reducible rfl); rotate_left; (focus simp only [pt, i64_w, i32_w]; rfl)
                    refine pure_ (i := 5) (N := some 26) (v := ?_) (a' := ?_) #[true, true, true, true, false, true, false, false] rfl rfl (any_of HT_.out (by kernel_rfl)) (fun _ _ _ h => h) (Or.inl ⟨by rfl, ?_⟩) ?_ ?_; rotate_left; (focus intro w'; go_simp; with_reducible rfl); rotate_left; (focus simp only [pt, i64_w, i32_w]; rfl)
                    refine take_ (i := 4) (N := some 25) (v := ?_) (a' := ?_) #[true, true, true, true, true, true, false, false] rfl rfl (take_ofW HT_.out HW_.out (by kernel_rfl)) (fun _ _ _ h => h) (Or.inl ⟨by rfl, ?_⟩) hHeld ?_ ?_; rotate_left; (focus rintro w' ⟨s0, s1, s2, s3, s4⟩; go_simp; with_reducible rfl); rotate_left; (focus simp only [pt, i64_w, i32_w]; rfl)
                    refine one_ (i := 6) (N := some 27) #[true, true, true, true, true, true, true, false] rfl rfl (one_of HT_.out (by kernel_rfl)) (by decide) (fun K hK => ?_)
                    refine goes_ Try.func48 (by kernel_rfl) rfl #[.int .i64 (wrap64 (x1_1 + 1))] (by rfl) rfl rfl gA ?_
                    with_reducible refine (laws_markText.calls k1 (wrap64 (x1_1 + 1)) t498 _ A6.out).mono ?_
                    rintro e w22 ⟨rfl, hb⟩
                    refine ⟨_, rfl, ?_⟩
                    have n0_ := Aside0.mk (below_step (w := w) bW hb)
                    clear HB
                    have HB := n0_
                    clear n0_
                    (try clear hb)
                    (try clear hb2)
                    (try clear hk)
                    (try clear hi)
                    refine hK.out _ _ ⟨((HB.out.cell (World.block_lt_of_cell? w _ hw497_0)).trans hw497_0), ((HB.out.cell (World.block_lt_of_cell? w _ hw497_1)).trans hw497_1), ((HB.out.cell (World.block_lt_of_cell? w _ hw497_2)).trans hw497_2), ((HB.out.cell (World.block_lt_of_cell? w _ hw497_3)).trans hw497_3), ((HB.out.cell (World.block_lt_of_cell? w _ hw497_4)).trans hw497_4)⟩ (fun hHeld => ?_)
                    clear hK K
                    refine norm_ (a' := ?_) ?_ ?_
                    rotate_left
                    · show Act.put _ (some 27) _ = _
                      simp only [Act.put, List.setIfInBounds_toArray, List.set_cons_zero, List.set_cons_succ, i64_w, i32_w]
                      rfl
                    refine pure_ (i := 7) (N := some 28) (v := ?_) (a' := ?_) #[true, true, true, true, true, true, true, true] rfl rfl (any_of HT_.out (by kernel_rfl)) (fun _ _ _ h => h) (Or.inl ⟨by rfl, ?_⟩) ?_ ?_; rotate_left; (focus intro w'; go_simp; with_reducible rfl); rotate_left; (focus simp only [pt, i64_w, i32_w]; rfl)
                    refine done_ (done_of HT_.out (by kernel_rfl)) ?_
                    try go_wp2
                    have n0_ := Aside0.mk (below_drew1 HB.out)
                    clear HB
                    have HB := n0_
                    clear n0_
                    have p499 : 0 ≤ (x5_1 : Int) := odt
                    have q499 : x5_1 < (l0.length : Int) := odt
                    obtain ⟨ad499, A499_4, c499_4, e499, hx499_0, hx499_1, hx499_2, hx499_3, hx499_4, hl499_4, hi499_4⟩ := at_T94 HR0.out x5_1 p499 q499
                    (try clear hx496_4 hw496_4); (try clear hx496_4)
                    (try clear hx497_4 hw497_4); (try clear hx497_4)
                    (try clear hx501_4 hw501_4); (try clear hx501_4)
                    (try clear hx503_4 hw503_4); (try clear hx503_4)
                    (try clear hHeld)
                    have hw499_4 := hx499_4
                    have hw499_3 := hx499_3
                    have hw499_2 := hx499_2
                    have hw499_1 := hx499_1
                    have hw499_0 := hx499_0
                    obtain rfl : ad496 = ad499 := (by injection e499)
                    replace hx499_0 := (HB.out.cell (World.block_lt_of_cell? w _ hx499_0)).trans hx499_0
                    replace hx499_1 := (HB.out.cell (World.block_lt_of_cell? w _ hx499_1)).trans hx499_1
                    replace hx499_2 := (HB.out.cell (World.block_lt_of_cell? w _ hx499_2)).trans hx499_2
                    replace hx499_3 := (HB.out.cell (World.block_lt_of_cell? w _ hx499_3)).trans hx499_3
                    replace hx499_4 := (HB.out.cell (World.block_lt_of_cell? w _ hx499_4)).trans hx499_4
                    have HR499_4 := Aside0.mk hi499_4
                    have HC499_4 := Aside0.mk hl499_4
                    clear hi499_4 hl499_4
                    replace p499 := eq_true p499
                    replace q499 := eq_true q499
                    refine start_ (n := 8) (S := fun w' => w'.cell? (ad496.add ((x5_1).toNat * 5)) = some (.int .i64 ((rd_T94 l0 x5_1).f0)) ∧ w'.cell? ⟨(ad496.add ((x5_1).toNat * 5)).block, (ad496.add ((x5_1).toNat * 5)).off + 1, none⟩ = some (.string ((rd_T94 l0 x5_1).f1)) ∧ w'.cell? ⟨(ad496.add ((x5_1).toNat * 5)).block, (ad496.add ((x5_1).toNat * 5)).off + 2, none⟩ = some (.string ((rd_T94 l0 x5_1).f2)) ∧ w'.cell? ⟨(ad496.add ((x5_1).toNat * 5)).block, (ad496.add ((x5_1).toNat * 5)).off + 3, none⟩ = some (.string ((rd_T94 l0 x5_1).f3)) ∧ w'.cell? ⟨(ad496.add ((x5_1).toNat * 5)).block, (ad496.add ((x5_1).toNat * 5)).off + 4, none⟩ = some (.slice A499_4 ((rd_T94 l0 x5_1).f4).length c499_4)) (ds := []) #[false, false, false, false, false, false, false, false] (by kernel_rfl) rfl rfl ⟨((HB.out.cell (World.block_lt_of_cell? w _ hw499_0)).trans hw499_0), ((HB.out.cell (World.block_lt_of_cell? w _ hw499_1)).trans hw499_1), ((HB.out.cell (World.block_lt_of_cell? w _ hw499_2)).trans hw499_2), ((HB.out.cell (World.block_lt_of_cell? w _ hw499_3)).trans hw499_3), ((HB.out.cell (World.block_lt_of_cell? w _ hw499_4)).trans hw499_4)⟩ (fun hHeld => ?_); refine with_tabW laws_heldWishS.tab10 laws_heldWishS.bits10 (fun HT_ HW_ => ?_)
                    generalize w22.drew = w23 at HB HR499_4 hx499_0 hx499_1 hx499_2 hx499_3 hx499_4 hHeld ⊢
                    refine pure_ (i := 0) (N := some 31) (v := ?_) (a' := ?_) #[true, false, false, false, false, false, false, false] rfl rfl (any_of HT_.out (by kernel_rfl)) (fun _ _ _ h => h) (Or.inl ⟨by rfl, ?_⟩) ?_ ?_; rotate_left; (focus intro w'; go_simp; with_reducible rfl); rotate_left; (focus simp only [pt, i64_w, i32_w]; rfl)
                    refine pure_ (i := 1) (N := some 32) (v := ?_) (a' := ?_) #[true, true, false, false, false, false, false, false] rfl rfl (any_of HT_.out (by kernel_rfl)) (fun _ _ _ h => h) (Or.inl ⟨by rfl, ?_⟩) ?_ ?_; rotate_left; (focus intro w'; go_simp; with_reducible rfl); rotate_left; (focus simp only [pt, i64_w, i32_w]; rfl)
                    refine pure_ (i := 2) (N := some 33) (v := ?_) (a' := ?_) #[true, true, true, false, false, false, false, false] rfl rfl (any_of HT_.out (by kernel_rfl)) (fun _ _ _ h => h) (Or.inl ⟨by rfl, ?_⟩) ?_ ?_; rotate_left; (focus intro w'; go_simp; with_reducible rfl); rotate_left; (focus simp only [pt, i64_w, i32_w]; rfl)
                    refine pure_ (i := 3) (N := some 34) (v := ?_) (a' := ?_) #[true, true, true, true, false, false, false, false] rfl rfl (any_of HT_.out (by kernel_rfl)) (fun _ _ _ h => h) (Or.inl ⟨by rfl, ?_⟩) ?_ ?_; rotate_left; (focus intro w'; go_simp; with_reducible rfl); rotate_left; (focus simp only [pt, i64_w, i32_w]; rfl)
                    refine pure_ (i := 5) (N := some 36) (v := ?_) (a' := ?_) #[true, true, true, true, false, true, false, false] rfl rfl (any_of HT_.out (by kernel_rfl)) (fun _ _ _ h => h) (Or.inl ⟨by rfl, ?_⟩) ?_ ?_; rotate_left; (focus intro w'; go_simp; with_reducible rfl); rotate_left; (focus simp only [pt, i64_w, i32_w]; rfl)
                    refine take_ (i := 4) (N := some 35) (v := ?_) (a' := ?_) #[true, true, true, true, true, true, false, false] rfl rfl (take_ofW HT_.out HW_.out (by kernel_rfl)) (fun _ _ _ h => h) (Or.inl ⟨by rfl, ?_⟩) hHeld ?_ ?_; rotate_left; (focus rintro w' ⟨s0, s1, s2, s3, s4⟩; go_simp; with_reducible rfl); rotate_left; (focus simp only [pt, i64_w, i32_w]; rfl)
                    refine one_ (i := 6) (N := some 37) #[true, true, true, true, true, true, true, false] rfl rfl (one_of HT_.out (by kernel_rfl)) (by decide) (fun K hK => ?_)
                    refine goes_ Try.func48 (by kernel_rfl) rfl #[.int .i64 (wrap64 ((wrap64 (x1_1 + 1)) + 1))] (by rfl) rfl rfl gA ?_
                    with_reducible refine (laws_markText.calls k1 (wrap64 ((wrap64 (x1_1 + 1)) + 1)) t500 _ A8.out).mono ?_
                    rintro e w24 ⟨rfl, hb⟩
                    refine ⟨_, rfl, ?_⟩
                    have n0_ := Aside0.mk (below_step (w := w) bW hb)
                    clear HB
                    have HB := n0_
                    clear n0_
                    (try clear hb)
                    (try clear hb2)
                    (try clear hk)
                    (try clear hi)
                    refine hK.out _ _ ⟨((HB.out.cell (World.block_lt_of_cell? w _ hw499_0)).trans hw499_0), ((HB.out.cell (World.block_lt_of_cell? w _ hw499_1)).trans hw499_1), ((HB.out.cell (World.block_lt_of_cell? w _ hw499_2)).trans hw499_2), ((HB.out.cell (World.block_lt_of_cell? w _ hw499_3)).trans hw499_3), ((HB.out.cell (World.block_lt_of_cell? w _ hw499_4)).trans hw499_4)⟩ (fun hHeld => ?_)
                    clear hK K
                    refine norm_ (a' := ?_) ?_ ?_
                    rotate_left
                    · show Act.put _ (some 37) _ = _
                      simp only [Act.put, List.setIfInBounds_toArray, List.set_cons_zero, List.set_cons_succ, i64_w, i32_w]
                      rfl
                    refine pure_ (i := 7) (N := some 38) (v := ?_) (a' := ?_) #[true, true, true, true, true, true, true, true] rfl rfl (any_of HT_.out (by kernel_rfl)) (fun _ _ _ h => h) (Or.inl ⟨by rfl, ?_⟩) ?_ ?_; rotate_left; (focus intro w'; go_simp; with_reducible rfl); rotate_left; (focus simp only [pt, i64_w, i32_w]; rfl)
                    refine done_ (done_of HT_.out (by kernel_rfl)) ?_
                    try go_wp2
                    have n0_ := Aside0.mk (below_drew1 HB.out)
                    clear HB
                    have HB := n0_
                    clear n0_
                    have p501 : 0 ≤ (x5_1 : Int) := odt
                    have q501 : x5_1 < (l0.length : Int) := odt
                    obtain ⟨ad501, A501_4, c501_4, e501, hx501_0, hx501_1, hx501_2, hx501_3, hx501_4, hl501_4, hi501_4⟩ := at_T94 HR0.out x5_1 p501 q501
                    (try clear hx496_4 hw496_4); (try clear hx496_4)
                    (try clear hx497_4 hw497_4); (try clear hx497_4)
                    (try clear hx499_4 hw499_4); (try clear hx499_4)
                    (try clear hx503_4 hw503_4); (try clear hx503_4)
                    (try clear hHeld)
                    have hw501_4 := hx501_4
                    have hw501_3 := hx501_3
                    have hw501_2 := hx501_2
                    have hw501_1 := hx501_1
                    have hw501_0 := hx501_0
                    obtain rfl : ad496 = ad501 := (by injection e501)
                    replace hx501_0 := (HB.out.cell (World.block_lt_of_cell? w _ hx501_0)).trans hx501_0
                    replace hx501_1 := (HB.out.cell (World.block_lt_of_cell? w _ hx501_1)).trans hx501_1
                    replace hx501_2 := (HB.out.cell (World.block_lt_of_cell? w _ hx501_2)).trans hx501_2
                    replace hx501_3 := (HB.out.cell (World.block_lt_of_cell? w _ hx501_3)).trans hx501_3
                    replace hx501_4 := (HB.out.cell (World.block_lt_of_cell? w _ hx501_4)).trans hx501_4
                    have HR501_4 := Aside0.mk hi501_4
                    have HC501_4 := Aside0.mk hl501_4
                    clear hi501_4 hl501_4
                    replace p501 := eq_true p501
                    replace q501 := eq_true q501
                    refine start_ (n := 8) (S := fun w' => w'.cell? (ad496.add ((x5_1).toNat * 5)) = some (.int .i64 ((rd_T94 l0 x5_1).f0)) ∧ w'.cell? ⟨(ad496.add ((x5_1).toNat * 5)).block, (ad496.add ((x5_1).toNat * 5)).off + 1, none⟩ = some (.string ((rd_T94 l0 x5_1).f1)) ∧ w'.cell? ⟨(ad496.add ((x5_1).toNat * 5)).block, (ad496.add ((x5_1).toNat * 5)).off + 2, none⟩ = some (.string ((rd_T94 l0 x5_1).f2)) ∧ w'.cell? ⟨(ad496.add ((x5_1).toNat * 5)).block, (ad496.add ((x5_1).toNat * 5)).off + 3, none⟩ = some (.string ((rd_T94 l0 x5_1).f3)) ∧ w'.cell? ⟨(ad496.add ((x5_1).toNat * 5)).block, (ad496.add ((x5_1).toNat * 5)).off + 4, none⟩ = some (.slice A501_4 ((rd_T94 l0 x5_1).f4).length c501_4)) (ds := []) #[false, false, false, false, false, false, false, false] (by kernel_rfl) rfl rfl ⟨((HB.out.cell (World.block_lt_of_cell? w _ hw501_0)).trans hw501_0), ((HB.out.cell (World.block_lt_of_cell? w _ hw501_1)).trans hw501_1), ((HB.out.cell (World.block_lt_of_cell? w _ hw501_2)).trans hw501_2), ((HB.out.cell (World.block_lt_of_cell? w _ hw501_3)).trans hw501_3), ((HB.out.cell (World.block_lt_of_cell? w _ hw501_4)).trans hw501_4)⟩ (fun hHeld => ?_); refine with_tabW laws_heldWishS.tab13 laws_heldWishS.bits13 (fun HT_ HW_ => ?_)
                    generalize w24.drew = w25 at HB HR501_4 hx501_0 hx501_1 hx501_2 hx501_3 hx501_4 hHeld ⊢
                    refine pure_ (i := 0) (N := some 41) (v := ?_) (a' := ?_) #[true, false, false, false, false, false, false, false] rfl rfl (any_of HT_.out (by kernel_rfl)) (fun _ _ _ h => h) (Or.inl ⟨by rfl, ?_⟩) ?_ ?_; rotate_left; (focus intro w'; go_simp; with_reducible rfl); rotate_left; (focus simp only [pt, i64_w, i32_w]; rfl)
                    refine pure_ (i := 1) (N := some 42) (v := ?_) (a' := ?_) #[true, true, false, false, false, false, false, false] rfl rfl (any_of HT_.out (by kernel_rfl)) (fun _ _ _ h => h) (Or.inl ⟨by rfl, ?_⟩) ?_ ?_; rotate_left; (focus intro w'; go_simp; with_reducible rfl); rotate_left; (focus simp only [pt, i64_w, i32_w]; rfl)
                    refine pure_ (i := 2) (N := some 43) (v := ?_) (a' := ?_) #[true, true, true, false, false, false, false, false] rfl rfl (any_of HT_.out (by kernel_rfl)) (fun _ _ _ h => h) (Or.inl ⟨by rfl, ?_⟩) ?_ ?_; rotate_left; (focus intro w'; go_simp; with_reducible rfl); rotate_left; (focus simp only [pt, i64_w, i32_w]; rfl)
                    refine pure_ (i := 3) (N := some 44) (v := ?_) (a' := ?_) #[true, true, true, true, false, false, false, false] rfl rfl (any_of HT_.out (by kernel_rfl)) (fun _ _ _ h => h) (Or.inl ⟨by rfl, ?_⟩) ?_ ?_; rotate_left; (focus intro w'; go_simp; with_reducible rfl); rotate_left; (focus simp only [pt, i64_w, i32_w]; rfl)
                    refine pure_ (i := 5) (N := some 46) (v := ?_) (a' := ?_) #[true, true, true, true, false, true, false, false] rfl rfl (any_of HT_.out (by kernel_rfl)) (fun _ _ _ h => h) (Or.inl ⟨by rfl, ?_⟩) ?_ ?_; rotate_left; (focus intro w'; go_simp; with_reducible rfl); rotate_left; (focus simp only [pt, i64_w, i32_w]; rfl)
                    refine take_ (i := 4) (N := some 45) (v := ?_) (a' := ?_) #[true, true, true, true, true, true, false, false] rfl rfl (take_ofW HT_.out HW_.out (by kernel_rfl)) (fun _ _ _ h => h) (Or.inl ⟨by rfl, ?_⟩) hHeld ?_ ?_; rotate_left; (focus rintro w' ⟨s0, s1, s2, s3, s4⟩; go_simp; with_reducible rfl); rotate_left; (focus simp only [pt, i64_w, i32_w]; rfl)
                    refine one_ (i := 6) (N := some 47) #[true, true, true, true, true, true, true, false] rfl rfl (one_of HT_.out (by kernel_rfl)) (by decide) (fun K hK => ?_)
                    refine goes_ Try.func48 (by kernel_rfl) rfl #[.int .i64 (wrap64 ((wrap64 ((wrap64 (x1_1 + 1)) + 1)) + 1))] (by rfl) rfl rfl gA ?_
                    with_reducible refine (laws_markText.calls k1 (wrap64 ((wrap64 ((wrap64 (x1_1 + 1)) + 1)) + 1)) t502 _ A10.out).mono ?_
                    rintro e w26 ⟨rfl, hb⟩
                    refine ⟨_, rfl, ?_⟩
                    have n0_ := Aside0.mk (below_step (w := w) bW hb)
                    clear HB
                    have HB := n0_
                    clear n0_
                    (try clear hb)
                    (try clear hb2)
                    (try clear hk)
                    (try clear hi)
                    refine hK.out _ _ ⟨((HB.out.cell (World.block_lt_of_cell? w _ hw501_0)).trans hw501_0), ((HB.out.cell (World.block_lt_of_cell? w _ hw501_1)).trans hw501_1), ((HB.out.cell (World.block_lt_of_cell? w _ hw501_2)).trans hw501_2), ((HB.out.cell (World.block_lt_of_cell? w _ hw501_3)).trans hw501_3), ((HB.out.cell (World.block_lt_of_cell? w _ hw501_4)).trans hw501_4)⟩ (fun hHeld => ?_)
                    clear hK K
                    refine norm_ (a' := ?_) ?_ ?_
                    rotate_left
                    · show Act.put _ (some 47) _ = _
                      simp only [Act.put, List.setIfInBounds_toArray, List.set_cons_zero, List.set_cons_succ, i64_w, i32_w]
                      rfl
                    refine pure_ (i := 7) (N := some 48) (v := ?_) (a' := ?_) #[true, true, true, true, true, true, true, true] rfl rfl (any_of HT_.out (by kernel_rfl)) (fun _ _ _ h => h) (Or.inl ⟨by rfl, ?_⟩) ?_ ?_; rotate_left; (focus intro w'; go_simp; with_reducible rfl); rotate_left; (focus simp only [pt, i64_w, i32_w]; rfl)
                    refine done_ (done_of HT_.out (by kernel_rfl)) ?_
                    have p503 : 0 ≤ (x5_1 : Int) := odt
                    have q503 : x5_1 < (l0.length : Int) := odt
                    obtain ⟨ad503, A503_4, c503_4, e503, hx503_0, hx503_1, hx503_2, hx503_3, hx503_4, hl503_4, hi503_4⟩ := at_T94 HR0.out x5_1 p503 q503
                    (try clear hx496_4 hw496_4); (try clear hx496_4)
                    (try clear hx497_4 hw497_4); (try clear hx497_4)
                    (try clear hx499_4 hw499_4); (try clear hx499_4)
                    (try clear hx501_4 hw501_4); (try clear hx501_4)
                    (try clear hHeld)
                    obtain rfl : ad496 = ad503 := (by injection e503)
                    replace hx503_0 := (HB.out.cell (World.block_lt_of_cell? w _ hx503_0)).trans hx503_0
                    replace hx503_1 := (HB.out.cell (World.block_lt_of_cell? w _ hx503_1)).trans hx503_1
                    replace hx503_2 := (HB.out.cell (World.block_lt_of_cell? w _ hx503_2)).trans hx503_2
                    replace hx503_3 := (HB.out.cell (World.block_lt_of_cell? w _ hx503_3)).trans hx503_3
                    replace hx503_4 := (HB.out.cell (World.block_lt_of_cell? w _ hx503_4)).trans hx503_4
                    have HR503_4 := Aside0.mk hi503_4
                    have HC503_4 := Aside0.mk hl503_4
                    clear hi503_4 hl503_4
                    replace p503 := eq_true p503
                    replace q503 := eq_true q503
                    try go_wp2_with (first | ((with_reducible refine gate_callee (f := 92) rfl ?_); refine goesL_ (some 57) rfl rfl Try.func92 (by kernel_rfl) rfl #[.slice A503_4 ((rd_T94 l0 x5_1).f4).length c503_4, .int .i64 (wrap64 ((wrap64 ((wrap64 ((wrap64 (x1_1 + 1)) + 1)) + 1)) + 1))] rfl gA ?_; (with_reducible refine (laws_heldEditS.calls k1 _ _ ((rd_T94 l0 x5_1).f4) (wrap64 ((wrap64 ((wrap64 ((wrap64 (x1_1 + 1)) + 1)) + 1)) + 1)) t504 _ ?side1 ?side2 A12.out).mono ?_); (case side1 => exact cB HR503_4); (case side2 => exact HC503_4.out); rintro e w27 ⟨rfl, hb⟩; refine ⟨_, rfl, ?_⟩; have n0_ := Aside0.mk (below_step (w := w) bW hb); clear HB; have HB := n0_; clear n0_; (try clear hb); (try clear hb2); (try clear hk); (try clear hi)))
                    go_roundg k1
                    case measure => have := HK1.out; omega
                    case rel => exact ⟨(t504), (wrap64 (x5_1 + 1)), vE, vE, H', ⟨by have := HK1.out; omega⟩, ⟨bW⟩⟩
                · rw [if_neg c11] at H
                  have c11b0 : (((rd_T94 l0 x5_1).f3).toList == t502.toList) = false := beq_eq_false_iff_ne.mpr c11
                  have c11b1 : (((rd_T94 l0 x5_1).f3).toList != t502.toList) = true := bne_iff_ne.mpr c11
                  obtain rfl := Option.some.inj H
                  have p496 : 0 ≤ (x5_1 : Int) := odt
                  have q496 : x5_1 < (l0.length : Int) := odt
                  obtain ⟨ad496, A496_4, c496_4, e496, hx496_0, hx496_1, hx496_2, hx496_3, hx496_4, hl496_4, hi496_4⟩ := at_T94 HR0.out x5_1 p496 q496
                  (try clear hx497_4 hw497_4); (try clear hx497_4)
                  (try clear hx499_4 hw499_4); (try clear hx499_4)
                  (try clear hx501_4 hw501_4); (try clear hx501_4)
                  (try clear hx503_4 hw503_4); (try clear hx503_4)
                  (try clear hHeld)
                  cases e496
                  replace hx496_0 := (HB.out.cell (World.block_lt_of_cell? w _ hx496_0)).trans hx496_0
                  replace hx496_1 := (HB.out.cell (World.block_lt_of_cell? w _ hx496_1)).trans hx496_1
                  replace hx496_2 := (HB.out.cell (World.block_lt_of_cell? w _ hx496_2)).trans hx496_2
                  replace hx496_3 := (HB.out.cell (World.block_lt_of_cell? w _ hx496_3)).trans hx496_3
                  replace hx496_4 := (HB.out.cell (World.block_lt_of_cell? w _ hx496_4)).trans hx496_4
                  have HR496_4 := Aside0.mk hi496_4
                  have HC496_4 := Aside0.mk hl496_4
                  clear hi496_4 hl496_4
                  replace p496 := eq_true p496
                  replace q496 := eq_true q496
                  try go_wp2
                  have n0_ := Aside0.mk (below_drew1 HB.out)
                  clear HB
                  have HB := n0_
                  clear n0_
                  have p497 : 0 ≤ (x5_1 : Int) := odt
                  have q497 : x5_1 < (l0.length : Int) := odt
                  obtain ⟨ad497, A497_4, c497_4, e497, hx497_0, hx497_1, hx497_2, hx497_3, hx497_4, hl497_4, hi497_4⟩ := at_T94 HR0.out x5_1 p497 q497
                  (try clear hx496_4 hw496_4); (try clear hx496_4)
                  (try clear hx499_4 hw499_4); (try clear hx499_4)
                  (try clear hx501_4 hw501_4); (try clear hx501_4)
                  (try clear hx503_4 hw503_4); (try clear hx503_4)
                  (try clear hHeld)
                  have hw497_4 := hx497_4
                  have hw497_3 := hx497_3
                  have hw497_2 := hx497_2
                  have hw497_1 := hx497_1
                  have hw497_0 := hx497_0
                  obtain rfl : ad496 = ad497 := (by injection e497)
                  replace hx497_0 := (HB.out.cell (World.block_lt_of_cell? w _ hx497_0)).trans hx497_0
                  replace hx497_1 := (HB.out.cell (World.block_lt_of_cell? w _ hx497_1)).trans hx497_1
                  replace hx497_2 := (HB.out.cell (World.block_lt_of_cell? w _ hx497_2)).trans hx497_2
                  replace hx497_3 := (HB.out.cell (World.block_lt_of_cell? w _ hx497_3)).trans hx497_3
                  replace hx497_4 := (HB.out.cell (World.block_lt_of_cell? w _ hx497_4)).trans hx497_4
                  have HR497_4 := Aside0.mk hi497_4
                  have HC497_4 := Aside0.mk hl497_4
                  clear hi497_4 hl497_4
                  replace p497 := eq_true p497
                  replace q497 := eq_true q497
                  refine start_ (n := 8) (S := fun w' => w'.cell? (ad496.add ((x5_1).toNat * 5)) = some (.int .i64 ((rd_T94 l0 x5_1).f0)) ∧ w'.cell? ⟨(ad496.add ((x5_1).toNat * 5)).block, (ad496.add ((x5_1).toNat * 5)).off + 1, none⟩ = some (.string ((rd_T94 l0 x5_1).f1)) ∧ w'.cell? ⟨(ad496.add ((x5_1).toNat * 5)).block, (ad496.add ((x5_1).toNat * 5)).off + 2, none⟩ = some (.string ((rd_T94 l0 x5_1).f2)) ∧ w'.cell? ⟨(ad496.add ((x5_1).toNat * 5)).block, (ad496.add ((x5_1).toNat * 5)).off + 3, none⟩ = some (.string ((rd_T94 l0 x5_1).f3)) ∧ w'.cell? ⟨(ad496.add ((x5_1).toNat * 5)).block, (ad496.add ((x5_1).toNat * 5)).off + 4, none⟩ = some (.slice A497_4 ((rd_T94 l0 x5_1).f4).length c497_4)) (ds := []) #[false, false, false, false, false, false, false, false] (by kernel_rfl) rfl rfl ⟨((HB.out.cell (World.block_lt_of_cell? w _ hw497_0)).trans hw497_0), ((HB.out.cell (World.block_lt_of_cell? w _ hw497_1)).trans hw497_1), ((HB.out.cell (World.block_lt_of_cell? w _ hw497_2)).trans hw497_2), ((HB.out.cell (World.block_lt_of_cell? w _ hw497_3)).trans hw497_3), ((HB.out.cell (World.block_lt_of_cell? w _ hw497_4)).trans hw497_4)⟩ (fun hHeld => ?_); refine with_tabW laws_heldWishS.tab7 laws_heldWishS.bits7 (fun HT_ HW_ => ?_)
                  generalize wr.drew = w28 at HB HR497_4 hx497_0 hx497_1 hx497_2 hx497_3 hx497_4 hHeld ⊢
                  refine pure_ (i := 0) (N := some 21) (v := ?_) (a' := ?_) #[true, false, false, false, false, false, false, false] rfl rfl (any_of HT_.out (by kernel_rfl)) (fun _ _ _ h => h) (Or.inl ⟨by rfl, ?_⟩) ?_ ?_; rotate_left; (focus intro w'; go_simp; with_reducible rfl); rotate_left; (focus simp only [pt, i64_w, i32_w]; rfl)
                  refine pure_ (i := 1) (N := some 22) (v := ?_) (a' := ?_) #[true, true, false, false, false, false, false, false] rfl rfl (any_of HT_.out (by kernel_rfl)) (fun _ _ _ h => h) (Or.inl ⟨by rfl, ?_⟩) ?_ ?_; rotate_left; (focus intro w'; go_simp; with_reducible rfl); rotate_left; (focus simp only [pt, i64_w, i32_w]; rfl)
                  refine pure_ (i := 2) (N := some 23) (v := ?_) (a' := ?_) #[true, true, true, false, false, false, false, false] rfl rfl (any_of HT_.out (by kernel_rfl)) (fun _ _ _ h => h) (Or.inl ⟨by rfl, ?_⟩) ?_ ?_; rotate_left; (focus intro w'; go_simp; with_reducible rfl); rotate_left; (focus simp only [pt, i64_w, i32_w]; rfl)
                  refine pure_ (i := 3) (N := some 24) (v := ?_) (a' := ?_) #[true, true, true, true, false, false, false, false] rfl rfl (any_of HT_.out (by kernel_rfl)) (fun _ _ _ h => h) (Or.inl ⟨by rfl, ?_⟩) ?_ ?_; rotate_left; (focus intro w'; go_simp; with_reducible rfl); rotate_left; (focus simp only [pt, i64_w, i32_w]; rfl)
                  refine pure_ (i := 5) (N := some 26) (v := ?_) (a' := ?_) #[true, true, true, true, false, true, false, false] rfl rfl (any_of HT_.out (by kernel_rfl)) (fun _ _ _ h => h) (Or.inl ⟨by rfl, ?_⟩) ?_ ?_; rotate_left; (focus intro w'; go_simp; with_reducible rfl); rotate_left; (focus simp only [pt, i64_w, i32_w]; rfl)
                  refine take_ (i := 4) (N := some 25) (v := ?_) (a' := ?_) #[true, true, true, true, true, true, false, false] rfl rfl (take_ofW HT_.out HW_.out (by kernel_rfl)) (fun _ _ _ h => h) (Or.inl ⟨by rfl, ?_⟩) hHeld ?_ ?_; rotate_left; (focus rintro w' ⟨s0, s1, s2, s3, s4⟩; go_simp; with_reducible rfl); rotate_left; (focus simp only [pt, i64_w, i32_w]; rfl)
                  refine one_ (i := 6) (N := some 27) #[true, true, true, true, true, true, true, false] rfl rfl (one_of HT_.out (by kernel_rfl)) (by decide) (fun K hK => ?_)
                  refine goes_ Try.func48 (by kernel_rfl) rfl #[.int .i64 (wrap64 (x1_1 + 1))] (by rfl) rfl rfl gA ?_
                  with_reducible refine (laws_markText.calls k1 (wrap64 (x1_1 + 1)) t498 _ A6.out).mono ?_
                  rintro e w29 ⟨rfl, hb⟩
                  refine ⟨_, rfl, ?_⟩
                  have n0_ := Aside0.mk (below_step (w := w) bW hb)
                  clear HB
                  have HB := n0_
                  clear n0_
                  (try clear hb)
                  (try clear hb2)
                  (try clear hk)
                  (try clear hi)
                  refine hK.out _ _ ⟨((HB.out.cell (World.block_lt_of_cell? w _ hw497_0)).trans hw497_0), ((HB.out.cell (World.block_lt_of_cell? w _ hw497_1)).trans hw497_1), ((HB.out.cell (World.block_lt_of_cell? w _ hw497_2)).trans hw497_2), ((HB.out.cell (World.block_lt_of_cell? w _ hw497_3)).trans hw497_3), ((HB.out.cell (World.block_lt_of_cell? w _ hw497_4)).trans hw497_4)⟩ (fun hHeld => ?_)
                  clear hK K
                  refine norm_ (a' := ?_) ?_ ?_
                  rotate_left
                  · show Act.put _ (some 27) _ = _
                    simp only [Act.put, List.setIfInBounds_toArray, List.set_cons_zero, List.set_cons_succ, i64_w, i32_w]
                    rfl
                  refine pure_ (i := 7) (N := some 28) (v := ?_) (a' := ?_) #[true, true, true, true, true, true, true, true] rfl rfl (any_of HT_.out (by kernel_rfl)) (fun _ _ _ h => h) (Or.inl ⟨by rfl, ?_⟩) ?_ ?_; rotate_left; (focus intro w'; go_simp; with_reducible rfl); rotate_left; (focus simp only [pt, i64_w, i32_w]; rfl)
                  refine done_ (done_of HT_.out (by kernel_rfl)) ?_
                  try go_wp2
                  have n0_ := Aside0.mk (below_drew1 HB.out)
                  clear HB
                  have HB := n0_
                  clear n0_
                  have p499 : 0 ≤ (x5_1 : Int) := odt
                  have q499 : x5_1 < (l0.length : Int) := odt
                  obtain ⟨ad499, A499_4, c499_4, e499, hx499_0, hx499_1, hx499_2, hx499_3, hx499_4, hl499_4, hi499_4⟩ := at_T94 HR0.out x5_1 p499 q499
                  (try clear hx496_4 hw496_4); (try clear hx496_4)
                  (try clear hx497_4 hw497_4); (try clear hx497_4)
                  (try clear hx501_4 hw501_4); (try clear hx501_4)
                  (try clear hx503_4 hw503_4); (try clear hx503_4)
                  (try clear hHeld)
                  have hw499_4 := hx499_4
                  have hw499_3 := hx499_3
                  have hw499_2 := hx499_2
                  have hw499_1 := hx499_1
                  have hw499_0 := hx499_0
                  obtain rfl : ad496 = ad499 := (by injection e499)
                  replace hx499_0 := (HB.out.cell (World.block_lt_of_cell? w _ hx499_0)).trans hx499_0
                  replace hx499_1 := (HB.out.cell (World.block_lt_of_cell? w _ hx499_1)).trans hx499_1
                  replace hx499_2 := (HB.out.cell (World.block_lt_of_cell? w _ hx499_2)).trans hx499_2
                  replace hx499_3 := (HB.out.cell (World.block_lt_of_cell? w _ hx499_3)).trans hx499_3
                  replace hx499_4 := (HB.out.cell (World.block_lt_of_cell? w _ hx499_4)).trans hx499_4
                  have HR499_4 := Aside0.mk hi499_4
                  have HC499_4 := Aside0.mk hl499_4
                  clear hi499_4 hl499_4
                  replace p499 := eq_true p499
                  replace q499 := eq_true q499
                  refine start_ (n := 8) (S := fun w' => w'.cell? (ad496.add ((x5_1).toNat * 5)) = some (.int .i64 ((rd_T94 l0 x5_1).f0)) ∧ w'.cell? ⟨(ad496.add ((x5_1).toNat * 5)).block, (ad496.add ((x5_1).toNat * 5)).off + 1, none⟩ = some (.string ((rd_T94 l0 x5_1).f1)) ∧ w'.cell? ⟨(ad496.add ((x5_1).toNat * 5)).block, (ad496.add ((x5_1).toNat * 5)).off + 2, none⟩ = some (.string ((rd_T94 l0 x5_1).f2)) ∧ w'.cell? ⟨(ad496.add ((x5_1).toNat * 5)).block, (ad496.add ((x5_1).toNat * 5)).off + 3, none⟩ = some (.string ((rd_T94 l0 x5_1).f3)) ∧ w'.cell? ⟨(ad496.add ((x5_1).toNat * 5)).block, (ad496.add ((x5_1).toNat * 5)).off + 4, none⟩ = some (.slice A499_4 ((rd_T94 l0 x5_1).f4).length c499_4)) (ds := []) #[false, false, false, false, false, false, false, false] (by kernel_rfl) rfl rfl ⟨((HB.out.cell (World.block_lt_of_cell? w _ hw499_0)).trans hw499_0), ((HB.out.cell (World.block_lt_of_cell? w _ hw499_1)).trans hw499_1), ((HB.out.cell (World.block_lt_of_cell? w _ hw499_2)).trans hw499_2), ((HB.out.cell (World.block_lt_of_cell? w _ hw499_3)).trans hw499_3), ((HB.out.cell (World.block_lt_of_cell? w _ hw499_4)).trans hw499_4)⟩ (fun hHeld => ?_); refine with_tabW laws_heldWishS.tab10 laws_heldWishS.bits10 (fun HT_ HW_ => ?_)
                  generalize w29.drew = w30 at HB HR499_4 hx499_0 hx499_1 hx499_2 hx499_3 hx499_4 hHeld ⊢
                  refine pure_ (i := 0) (N := some 31) (v := ?_) (a' := ?_) #[true, false, false, false, false, false, false, false] rfl rfl (any_of HT_.out (by kernel_rfl)) (fun _ _ _ h => h) (Or.inl ⟨by rfl, ?_⟩) ?_ ?_; rotate_left; (focus intro w'; go_simp; with_reducible rfl); rotate_left; (focus simp only [pt, i64_w, i32_w]; rfl)
                  refine pure_ (i := 1) (N := some 32) (v := ?_) (a' := ?_) #[true, true, false, false, false, false, false, false] rfl rfl (any_of HT_.out (by kernel_rfl)) (fun _ _ _ h => h) (Or.inl ⟨by rfl, ?_⟩) ?_ ?_; rotate_left; (focus intro w'; go_simp; with_reducible rfl); rotate_left; (focus simp only [pt, i64_w, i32_w]; rfl)
                  refine pure_ (i := 2) (N := some 33) (v := ?_) (a' := ?_) #[true, true, true, false, false, false, false, false] rfl rfl (any_of HT_.out (by kernel_rfl)) (fun _ _ _ h => h) (Or.inl ⟨by rfl, ?_⟩) ?_ ?_; rotate_left; (focus intro w'; go_simp; with_reducible rfl); rotate_left; (focus simp only [pt, i64_w, i32_w]; rfl)
                  refine pure_ (i := 3) (N := some 34) (v := ?_) (a' := ?_) #[true, true, true, true, false, false, false, false] rfl rfl (any_of HT_.out (by kernel_rfl)) (fun _ _ _ h => h) (Or.inl ⟨by rfl, ?_⟩) ?_ ?_; rotate_left; (focus intro w'; go_simp; with_reducible rfl); rotate_left; (focus simp only [pt, i64_w, i32_w]; rfl)
                  refine pure_ (i := 5) (N := some 36) (v := ?_) (a' := ?_) #[true, true, true, true, false, true, false, false] rfl rfl (any_of HT_.out (by kernel_rfl)) (fun _ _ _ h => h) (Or.inl ⟨by rfl, ?_⟩) ?_ ?_; rotate_left; (focus intro w'; go_simp; with_reducible rfl); rotate_left; (focus simp only [pt, i64_w, i32_w]; rfl)
                  refine take_ (i := 4) (N := some 35) (v := ?_) (a' := ?_) #[true, true, true, true, true, true, false, false] rfl rfl (take_ofW HT_.out HW_.out (by kernel_rfl)) (fun _ _ _ h => h) (Or.inl ⟨by rfl, ?_⟩) hHeld ?_ ?_; rotate_left; (focus rintro w' ⟨s0, s1, s2, s3, s4⟩; go_simp; with_reducible rfl); rotate_left; (focus simp only [pt, i64_w, i32_w]; rfl)
                  refine one_ (i := 6) (N := some 37) #[true, true, true, true, true, true, true, false] rfl rfl (one_of HT_.out (by kernel_rfl)) (by decide) (fun K hK => ?_)
                  refine goes_ Try.func48 (by kernel_rfl) rfl #[.int .i64 (wrap64 ((wrap64 (x1_1 + 1)) + 1))] (by rfl) rfl rfl gA ?_
                  with_reducible refine (laws_markText.calls k1 (wrap64 ((wrap64 (x1_1 + 1)) + 1)) t500 _ A8.out).mono ?_
                  rintro e w31 ⟨rfl, hb⟩
                  refine ⟨_, rfl, ?_⟩
                  have n0_ := Aside0.mk (below_step (w := w) bW hb)
                  clear HB
                  have HB := n0_
                  clear n0_
                  (try clear hb)
                  (try clear hb2)
                  (try clear hk)
                  (try clear hi)
                  refine hK.out _ _ ⟨((HB.out.cell (World.block_lt_of_cell? w _ hw499_0)).trans hw499_0), ((HB.out.cell (World.block_lt_of_cell? w _ hw499_1)).trans hw499_1), ((HB.out.cell (World.block_lt_of_cell? w _ hw499_2)).trans hw499_2), ((HB.out.cell (World.block_lt_of_cell? w _ hw499_3)).trans hw499_3), ((HB.out.cell (World.block_lt_of_cell? w _ hw499_4)).trans hw499_4)⟩ (fun hHeld => ?_)
                  clear hK K
                  refine norm_ (a' := ?_) ?_ ?_
                  rotate_left
                  · show Act.put _ (some 37) _ = _
                    simp only [Act.put, List.setIfInBounds_toArray, List.set_cons_zero, List.set_cons_succ, i64_w, i32_w]
                    rfl
                  refine pure_ (i := 7) (N := some 38) (v := ?_) (a' := ?_) #[true, true, true, true, true, true, true, true] rfl rfl (any_of HT_.out (by kernel_rfl)) (fun _ _ _ h => h) (Or.inl ⟨by rfl, ?_⟩) ?_ ?_; rotate_left; (focus intro w'; go_simp; with_reducible rfl); rotate_left; (focus simp only [pt, i64_w, i32_w]; rfl)
                  refine done_ (done_of HT_.out (by kernel_rfl)) ?_
                  try go_wp2
                  have n0_ := Aside0.mk (below_drew1 HB.out)
                  clear HB
                  have HB := n0_
                  clear n0_
                  have p501 : 0 ≤ (x5_1 : Int) := odt
                  have q501 : x5_1 < (l0.length : Int) := odt
                  obtain ⟨ad501, A501_4, c501_4, e501, hx501_0, hx501_1, hx501_2, hx501_3, hx501_4, hl501_4, hi501_4⟩ := at_T94 HR0.out x5_1 p501 q501
                  (try clear hx496_4 hw496_4); (try clear hx496_4)
                  (try clear hx497_4 hw497_4); (try clear hx497_4)
                  (try clear hx499_4 hw499_4); (try clear hx499_4)
                  (try clear hx503_4 hw503_4); (try clear hx503_4)
                  (try clear hHeld)
                  have hw501_4 := hx501_4
                  have hw501_3 := hx501_3
                  have hw501_2 := hx501_2
                  have hw501_1 := hx501_1
                  have hw501_0 := hx501_0
                  obtain rfl : ad496 = ad501 := (by injection e501)
                  replace hx501_0 := (HB.out.cell (World.block_lt_of_cell? w _ hx501_0)).trans hx501_0
                  replace hx501_1 := (HB.out.cell (World.block_lt_of_cell? w _ hx501_1)).trans hx501_1
                  replace hx501_2 := (HB.out.cell (World.block_lt_of_cell? w _ hx501_2)).trans hx501_2
                  replace hx501_3 := (HB.out.cell (World.block_lt_of_cell? w _ hx501_3)).trans hx501_3
                  replace hx501_4 := (HB.out.cell (World.block_lt_of_cell? w _ hx501_4)).trans hx501_4
                  have HR501_4 := Aside0.mk hi501_4
                  have HC501_4 := Aside0.mk hl501_4
                  clear hi501_4 hl501_4
                  replace p501 := eq_true p501
                  replace q501 := eq_true q501
                  refine start_ (n := 8) (S := fun w' => w'.cell? (ad496.add ((x5_1).toNat * 5)) = some (.int .i64 ((rd_T94 l0 x5_1).f0)) ∧ w'.cell? ⟨(ad496.add ((x5_1).toNat * 5)).block, (ad496.add ((x5_1).toNat * 5)).off + 1, none⟩ = some (.string ((rd_T94 l0 x5_1).f1)) ∧ w'.cell? ⟨(ad496.add ((x5_1).toNat * 5)).block, (ad496.add ((x5_1).toNat * 5)).off + 2, none⟩ = some (.string ((rd_T94 l0 x5_1).f2)) ∧ w'.cell? ⟨(ad496.add ((x5_1).toNat * 5)).block, (ad496.add ((x5_1).toNat * 5)).off + 3, none⟩ = some (.string ((rd_T94 l0 x5_1).f3)) ∧ w'.cell? ⟨(ad496.add ((x5_1).toNat * 5)).block, (ad496.add ((x5_1).toNat * 5)).off + 4, none⟩ = some (.slice A501_4 ((rd_T94 l0 x5_1).f4).length c501_4)) (ds := []) #[false, false, false, false, false, false, false, false] (by kernel_rfl) rfl rfl ⟨((HB.out.cell (World.block_lt_of_cell? w _ hw501_0)).trans hw501_0), ((HB.out.cell (World.block_lt_of_cell? w _ hw501_1)).trans hw501_1), ((HB.out.cell (World.block_lt_of_cell? w _ hw501_2)).trans hw501_2), ((HB.out.cell (World.block_lt_of_cell? w _ hw501_3)).trans hw501_3), ((HB.out.cell (World.block_lt_of_cell? w _ hw501_4)).trans hw501_4)⟩ (fun hHeld => ?_); refine with_tabW laws_heldWishS.tab13 laws_heldWishS.bits13 (fun HT_ HW_ => ?_)
                  generalize w31.drew = w32 at HB HR501_4 hx501_0 hx501_1 hx501_2 hx501_3 hx501_4 hHeld ⊢
                  refine pure_ (i := 0) (N := some 41) (v := ?_) (a' := ?_) #[true, false, false, false, false, false, false, false] rfl rfl (any_of HT_.out (by kernel_rfl)) (fun _ _ _ h => h) (Or.inl ⟨by rfl, ?_⟩) ?_ ?_; rotate_left; (focus intro w'; go_simp; with_reducible rfl); rotate_left; (focus simp only [pt, i64_w, i32_w]; rfl)
                  refine pure_ (i := 1) (N := some 42) (v := ?_) (a' := ?_) #[true, true, false, false, false, false, false, false] rfl rfl (any_of HT_.out (by kernel_rfl)) (fun _ _ _ h => h) (Or.inl ⟨by rfl, ?_⟩) ?_ ?_; rotate_left; (focus intro w'; go_simp; with_reducible rfl); rotate_left; (focus simp only [pt, i64_w, i32_w]; rfl)
                  refine pure_ (i := 2) (N := some 43) (v := ?_) (a' := ?_) #[true, true, true, false, false, false, false, false] rfl rfl (any_of HT_.out (by kernel_rfl)) (fun _ _ _ h => h) (Or.inl ⟨by rfl, ?_⟩) ?_ ?_; rotate_left; (focus intro w'; go_simp; with_reducible rfl); rotate_left; (focus simp only [pt, i64_w, i32_w]; rfl)
                  refine pure_ (i := 3) (N := some 44) (v := ?_) (a' := ?_) #[true, true, true, true, false, false, false, false] rfl rfl (any_of HT_.out (by kernel_rfl)) (fun _ _ _ h => h) (Or.inl ⟨by rfl, ?_⟩) ?_ ?_; rotate_left; (focus intro w'; go_simp; with_reducible rfl); rotate_left; (focus simp only [pt, i64_w, i32_w]; rfl)
                  refine pure_ (i := 5) (N := some 46) (v := ?_) (a' := ?_) #[true, true, true, true, false, true, false, false] rfl rfl (any_of HT_.out (by kernel_rfl)) (fun _ _ _ h => h) (Or.inl ⟨by rfl, ?_⟩) ?_ ?_; rotate_left; (focus intro w'; go_simp; with_reducible rfl); rotate_left; (focus simp only [pt, i64_w, i32_w]; rfl)
                  refine take_ (i := 4) (N := some 45) (v := ?_) (a' := ?_) #[true, true, true, true, true, true, false, false] rfl rfl (take_ofW HT_.out HW_.out (by kernel_rfl)) (fun _ _ _ h => h) (Or.inl ⟨by rfl, ?_⟩) hHeld ?_ ?_; rotate_left; (focus rintro w' ⟨s0, s1, s2, s3, s4⟩; go_simp; with_reducible rfl); rotate_left; (focus simp only [pt, i64_w, i32_w]; rfl)
                  refine one_ (i := 6) (N := some 47) #[true, true, true, true, true, true, true, false] rfl rfl (one_of HT_.out (by kernel_rfl)) (by decide) (fun K hK => ?_)
                  refine goes_ Try.func48 (by kernel_rfl) rfl #[.int .i64 (wrap64 ((wrap64 ((wrap64 (x1_1 + 1)) + 1)) + 1))] (by rfl) rfl rfl gA ?_
                  with_reducible refine (laws_markText.calls k1 (wrap64 ((wrap64 ((wrap64 (x1_1 + 1)) + 1)) + 1)) t502 _ A10.out).mono ?_
                  rintro e w33 ⟨rfl, hb⟩
                  refine ⟨_, rfl, ?_⟩
                  have n0_ := Aside0.mk (below_step (w := w) bW hb)
                  clear HB
                  have HB := n0_
                  clear n0_
                  (try clear hb)
                  (try clear hb2)
                  (try clear hk)
                  (try clear hi)
                  refine hK.out _ _ ⟨((HB.out.cell (World.block_lt_of_cell? w _ hw501_0)).trans hw501_0), ((HB.out.cell (World.block_lt_of_cell? w _ hw501_1)).trans hw501_1), ((HB.out.cell (World.block_lt_of_cell? w _ hw501_2)).trans hw501_2), ((HB.out.cell (World.block_lt_of_cell? w _ hw501_3)).trans hw501_3), ((HB.out.cell (World.block_lt_of_cell? w _ hw501_4)).trans hw501_4)⟩ (fun hHeld => ?_)
                  clear hK K
                  refine norm_ (a' := ?_) ?_ ?_
                  rotate_left
                  · show Act.put _ (some 47) _ = _
                    simp only [Act.put, List.setIfInBounds_toArray, List.set_cons_zero, List.set_cons_succ, i64_w, i32_w]
                    rfl
                  refine pure_ (i := 7) (N := some 48) (v := ?_) (a' := ?_) #[true, true, true, true, true, true, true, true] rfl rfl (any_of HT_.out (by kernel_rfl)) (fun _ _ _ h => h) (Or.inl ⟨by rfl, ?_⟩) ?_ ?_; rotate_left; (focus intro w'; go_simp; with_reducible rfl); rotate_left; (focus simp only [pt, i64_w, i32_w]; rfl)
                  refine done_ (done_of HT_.out (by kernel_rfl)) ?_
                  try go_wp2
                  go_ret
                  exact ⟨rE, bW⟩
              · rw [if_neg c9] at H
                have c9b0 : (((rd_T94 l0 x5_1).f2).toList == t500.toList) = false := beq_eq_false_iff_ne.mpr c9
                have c9b1 : (((rd_T94 l0 x5_1).f2).toList != t500.toList) = true := bne_iff_ne.mpr c9
                obtain rfl := Option.some.inj H
                have p496 : 0 ≤ (x5_1 : Int) := odt
                have q496 : x5_1 < (l0.length : Int) := odt
                obtain ⟨ad496, A496_4, c496_4, e496, hx496_0, hx496_1, hx496_2, hx496_3, hx496_4, hl496_4, hi496_4⟩ := at_T94 HR0.out x5_1 p496 q496
                (try clear hx497_4 hw497_4); (try clear hx497_4)
                (try clear hx499_4 hw499_4); (try clear hx499_4)
                (try clear hx501_4 hw501_4); (try clear hx501_4)
                (try clear hx503_4 hw503_4); (try clear hx503_4)
                (try clear hHeld)
                cases e496
                replace hx496_0 := (HB.out.cell (World.block_lt_of_cell? w _ hx496_0)).trans hx496_0
                replace hx496_1 := (HB.out.cell (World.block_lt_of_cell? w _ hx496_1)).trans hx496_1
                replace hx496_2 := (HB.out.cell (World.block_lt_of_cell? w _ hx496_2)).trans hx496_2
                replace hx496_3 := (HB.out.cell (World.block_lt_of_cell? w _ hx496_3)).trans hx496_3
                replace hx496_4 := (HB.out.cell (World.block_lt_of_cell? w _ hx496_4)).trans hx496_4
                have HR496_4 := Aside0.mk hi496_4
                have HC496_4 := Aside0.mk hl496_4
                clear hi496_4 hl496_4
                replace p496 := eq_true p496
                replace q496 := eq_true q496
                try go_wp2
                have n0_ := Aside0.mk (below_drew1 HB.out)
                clear HB
                have HB := n0_
                clear n0_
                have p497 : 0 ≤ (x5_1 : Int) := odt
                have q497 : x5_1 < (l0.length : Int) := odt
                obtain ⟨ad497, A497_4, c497_4, e497, hx497_0, hx497_1, hx497_2, hx497_3, hx497_4, hl497_4, hi497_4⟩ := at_T94 HR0.out x5_1 p497 q497
                (try clear hx496_4 hw496_4); (try clear hx496_4)
                (try clear hx499_4 hw499_4); (try clear hx499_4)
                (try clear hx501_4 hw501_4); (try clear hx501_4)
                (try clear hx503_4 hw503_4); (try clear hx503_4)
                (try clear hHeld)
                have hw497_4 := hx497_4
                have hw497_3 := hx497_3
                have hw497_2 := hx497_2
                have hw497_1 := hx497_1
                have hw497_0 := hx497_0
                obtain rfl : ad496 = ad497 := (by injection e497)
                replace hx497_0 := (HB.out.cell (World.block_lt_of_cell? w _ hx497_0)).trans hx497_0
                replace hx497_1 := (HB.out.cell (World.block_lt_of_cell? w _ hx497_1)).trans hx497_1
                replace hx497_2 := (HB.out.cell (World.block_lt_of_cell? w _ hx497_2)).trans hx497_2
                replace hx497_3 := (HB.out.cell (World.block_lt_of_cell? w _ hx497_3)).trans hx497_3
                replace hx497_4 := (HB.out.cell (World.block_lt_of_cell? w _ hx497_4)).trans hx497_4
                have HR497_4 := Aside0.mk hi497_4
                have HC497_4 := Aside0.mk hl497_4
                clear hi497_4 hl497_4
                replace p497 := eq_true p497
                replace q497 := eq_true q497
                refine start_ (n := 8) (S := fun w' => w'.cell? (ad496.add ((x5_1).toNat * 5)) = some (.int .i64 ((rd_T94 l0 x5_1).f0)) ∧ w'.cell? ⟨(ad496.add ((x5_1).toNat * 5)).block, (ad496.add ((x5_1).toNat * 5)).off + 1, none⟩ = some (.string ((rd_T94 l0 x5_1).f1)) ∧ w'.cell? ⟨(ad496.add ((x5_1).toNat * 5)).block, (ad496.add ((x5_1).toNat * 5)).off + 2, none⟩ = some (.string ((rd_T94 l0 x5_1).f2)) ∧ w'.cell? ⟨(ad496.add ((x5_1).toNat * 5)).block, (ad496.add ((x5_1).toNat * 5)).off + 3, none⟩ = some (.string ((rd_T94 l0 x5_1).f3)) ∧ w'.cell? ⟨(ad496.add ((x5_1).toNat * 5)).block, (ad496.add ((x5_1).toNat * 5)).off + 4, none⟩ = some (.slice A497_4 ((rd_T94 l0 x5_1).f4).length c497_4)) (ds := []) #[false, false, false, false, false, false, false, false] (by kernel_rfl) rfl rfl ⟨((HB.out.cell (World.block_lt_of_cell? w _ hw497_0)).trans hw497_0), ((HB.out.cell (World.block_lt_of_cell? w _ hw497_1)).trans hw497_1), ((HB.out.cell (World.block_lt_of_cell? w _ hw497_2)).trans hw497_2), ((HB.out.cell (World.block_lt_of_cell? w _ hw497_3)).trans hw497_3), ((HB.out.cell (World.block_lt_of_cell? w _ hw497_4)).trans hw497_4)⟩ (fun hHeld => ?_); refine with_tabW laws_heldWishS.tab7 laws_heldWishS.bits7 (fun HT_ HW_ => ?_)
                generalize wr.drew = w34 at HB HR497_4 hx497_0 hx497_1 hx497_2 hx497_3 hx497_4 hHeld ⊢
                refine pure_ (i := 0) (N := some 21) (v := ?_) (a' := ?_) #[true, false, false, false, false, false, false, false] rfl rfl (any_of HT_.out (by kernel_rfl)) (fun _ _ _ h => h) (Or.inl ⟨by rfl, ?_⟩) ?_ ?_; rotate_left; (focus intro w'; go_simp; with_reducible rfl); rotate_left; (focus simp only [pt, i64_w, i32_w]; rfl)
                refine pure_ (i := 1) (N := some 22) (v := ?_) (a' := ?_) #[true, true, false, false, false, false, false, false] rfl rfl (any_of HT_.out (by kernel_rfl)) (fun _ _ _ h => h) (Or.inl ⟨by rfl, ?_⟩) ?_ ?_; rotate_left; (focus intro w'; go_simp; with_reducible rfl); rotate_left; (focus simp only [pt, i64_w, i32_w]; rfl)
                refine pure_ (i := 2) (N := some 23) (v := ?_) (a' := ?_) #[true, true, true, false, false, false, false, false] rfl rfl (any_of HT_.out (by kernel_rfl)) (fun _ _ _ h => h) (Or.inl ⟨by rfl, ?_⟩) ?_ ?_; rotate_left; (focus intro w'; go_simp; with_reducible rfl); rotate_left; (focus simp only [pt, i64_w, i32_w]; rfl)
                refine pure_ (i := 3) (N := some 24) (v := ?_) (a' := ?_) #[true, true, true, true, false, false, false, false] rfl rfl (any_of HT_.out (by kernel_rfl)) (fun _ _ _ h => h) (Or.inl ⟨by rfl, ?_⟩) ?_ ?_; rotate_left; (focus intro w'; go_simp; with_reducible rfl); rotate_left; (focus simp only [pt, i64_w, i32_w]; rfl)
                refine pure_ (i := 5) (N := some 26) (v := ?_) (a' := ?_) #[true, true, true, true, false, true, false, false] rfl rfl (any_of HT_.out (by kernel_rfl)) (fun _ _ _ h => h) (Or.inl ⟨by rfl, ?_⟩) ?_ ?_; rotate_left; (focus intro w'; go_simp; with_reducible rfl); rotate_left; (focus simp only [pt, i64_w, i32_w]; rfl)
                refine take_ (i := 4) (N := some 25) (v := ?_) (a' := ?_) #[true, true, true, true, true, true, false, false] rfl rfl (take_ofW HT_.out HW_.out (by kernel_rfl)) (fun _ _ _ h => h) (Or.inl ⟨by rfl, ?_⟩) hHeld ?_ ?_; rotate_left; (focus rintro w' ⟨s0, s1, s2, s3, s4⟩; go_simp; with_reducible rfl); rotate_left; (focus simp only [pt, i64_w, i32_w]; rfl)
                refine one_ (i := 6) (N := some 27) #[true, true, true, true, true, true, true, false] rfl rfl (one_of HT_.out (by kernel_rfl)) (by decide) (fun K hK => ?_)
                refine goes_ Try.func48 (by kernel_rfl) rfl #[.int .i64 (wrap64 (x1_1 + 1))] (by rfl) rfl rfl gA ?_
                with_reducible refine (laws_markText.calls k1 (wrap64 (x1_1 + 1)) t498 _ A6.out).mono ?_
                rintro e w35 ⟨rfl, hb⟩
                refine ⟨_, rfl, ?_⟩
                have n0_ := Aside0.mk (below_step (w := w) bW hb)
                clear HB
                have HB := n0_
                clear n0_
                (try clear hb)
                (try clear hb2)
                (try clear hk)
                (try clear hi)
                refine hK.out _ _ ⟨((HB.out.cell (World.block_lt_of_cell? w _ hw497_0)).trans hw497_0), ((HB.out.cell (World.block_lt_of_cell? w _ hw497_1)).trans hw497_1), ((HB.out.cell (World.block_lt_of_cell? w _ hw497_2)).trans hw497_2), ((HB.out.cell (World.block_lt_of_cell? w _ hw497_3)).trans hw497_3), ((HB.out.cell (World.block_lt_of_cell? w _ hw497_4)).trans hw497_4)⟩ (fun hHeld => ?_)
                clear hK K
                refine norm_ (a' := ?_) ?_ ?_
                rotate_left
                · show Act.put _ (some 27) _ = _
                  simp only [Act.put, List.setIfInBounds_toArray, List.set_cons_zero, List.set_cons_succ, i64_w, i32_w]
                  rfl
                refine pure_ (i := 7) (N := some 28) (v := ?_) (a' := ?_) #[true, true, true, true, true, true, true, true] rfl rfl (any_of HT_.out (by kernel_rfl)) (fun _ _ _ h => h) (Or.inl ⟨by rfl, ?_⟩) ?_ ?_; rotate_left; (focus intro w'; go_simp; with_reducible rfl); rotate_left; (focus simp only [pt, i64_w, i32_w]; rfl)
                refine done_ (done_of HT_.out (by kernel_rfl)) ?_
                try go_wp2
                have n0_ := Aside0.mk (below_drew1 HB.out)
                clear HB
                have HB := n0_
                clear n0_
                have p499 : 0 ≤ (x5_1 : Int) := odt
                have q499 : x5_1 < (l0.length : Int) := odt
                obtain ⟨ad499, A499_4, c499_4, e499, hx499_0, hx499_1, hx499_2, hx499_3, hx499_4, hl499_4, hi499_4⟩ := at_T94 HR0.out x5_1 p499 q499
                (try clear hx496_4 hw496_4); (try clear hx496_4)
                (try clear hx497_4 hw497_4); (try clear hx497_4)
                (try clear hx501_4 hw501_4); (try clear hx501_4)
                (try clear hx503_4 hw503_4); (try clear hx503_4)
                (try clear hHeld)
                have hw499_4 := hx499_4
                have hw499_3 := hx499_3
                have hw499_2 := hx499_2
                have hw499_1 := hx499_1
                have hw499_0 := hx499_0
                obtain rfl : ad496 = ad499 := (by injection e499)
                replace hx499_0 := (HB.out.cell (World.block_lt_of_cell? w _ hx499_0)).trans hx499_0
                replace hx499_1 := (HB.out.cell (World.block_lt_of_cell? w _ hx499_1)).trans hx499_1
                replace hx499_2 := (HB.out.cell (World.block_lt_of_cell? w _ hx499_2)).trans hx499_2
                replace hx499_3 := (HB.out.cell (World.block_lt_of_cell? w _ hx499_3)).trans hx499_3
                replace hx499_4 := (HB.out.cell (World.block_lt_of_cell? w _ hx499_4)).trans hx499_4
                have HR499_4 := Aside0.mk hi499_4
                have HC499_4 := Aside0.mk hl499_4
                clear hi499_4 hl499_4
                replace p499 := eq_true p499
                replace q499 := eq_true q499
                refine start_ (n := 8) (S := fun w' => w'.cell? (ad496.add ((x5_1).toNat * 5)) = some (.int .i64 ((rd_T94 l0 x5_1).f0)) ∧ w'.cell? ⟨(ad496.add ((x5_1).toNat * 5)).block, (ad496.add ((x5_1).toNat * 5)).off + 1, none⟩ = some (.string ((rd_T94 l0 x5_1).f1)) ∧ w'.cell? ⟨(ad496.add ((x5_1).toNat * 5)).block, (ad496.add ((x5_1).toNat * 5)).off + 2, none⟩ = some (.string ((rd_T94 l0 x5_1).f2)) ∧ w'.cell? ⟨(ad496.add ((x5_1).toNat * 5)).block, (ad496.add ((x5_1).toNat * 5)).off + 3, none⟩ = some (.string ((rd_T94 l0 x5_1).f3)) ∧ w'.cell? ⟨(ad496.add ((x5_1).toNat * 5)).block, (ad496.add ((x5_1).toNat * 5)).off + 4, none⟩ = some (.slice A499_4 ((rd_T94 l0 x5_1).f4).length c499_4)) (ds := []) #[false, false, false, false, false, false, false, false] (by kernel_rfl) rfl rfl ⟨((HB.out.cell (World.block_lt_of_cell? w _ hw499_0)).trans hw499_0), ((HB.out.cell (World.block_lt_of_cell? w _ hw499_1)).trans hw499_1), ((HB.out.cell (World.block_lt_of_cell? w _ hw499_2)).trans hw499_2), ((HB.out.cell (World.block_lt_of_cell? w _ hw499_3)).trans hw499_3), ((HB.out.cell (World.block_lt_of_cell? w _ hw499_4)).trans hw499_4)⟩ (fun hHeld => ?_); refine with_tabW laws_heldWishS.tab10 laws_heldWishS.bits10 (fun HT_ HW_ => ?_)
                generalize w35.drew = w36 at HB HR499_4 hx499_0 hx499_1 hx499_2 hx499_3 hx499_4 hHeld ⊢
                refine pure_ (i := 0) (N := some 31) (v := ?_) (a' := ?_) #[true, false, false, false, false, false, false, false] rfl rfl (any_of HT_.out (by kernel_rfl)) (fun _ _ _ h => h) (Or.inl ⟨by rfl, ?_⟩) ?_ ?_; rotate_left; (focus intro w'; go_simp; with_reducible rfl); rotate_left; (focus simp only [pt, i64_w, i32_w]; rfl)
                refine pure_ (i := 1) (N := some 32) (v := ?_) (a' := ?_) #[true, true, false, false, false, false, false, false] rfl rfl (any_of HT_.out (by kernel_rfl)) (fun _ _ _ h => h) (Or.inl ⟨by rfl, ?_⟩) ?_ ?_; rotate_left; (focus intro w'; go_simp; with_reducible rfl); rotate_left; (focus simp only [pt, i64_w, i32_w]; rfl)
                refine pure_ (i := 2) (N := some 33) (v := ?_) (a' := ?_) #[true, true, true, false, false, false, false, false] rfl rfl (any_of HT_.out (by kernel_rfl)) (fun _ _ _ h => h) (Or.inl ⟨by rfl, ?_⟩) ?_ ?_; rotate_left; (focus intro w'; go_simp; with_reducible rfl); rotate_left; (focus simp only [pt, i64_w, i32_w]; rfl)
                refine pure_ (i := 3) (N := some 34) (v := ?_) (a' := ?_) #[true, true, true, true, false, false, false, false] rfl rfl (any_of HT_.out (by kernel_rfl)) (fun _ _ _ h => h) (Or.inl ⟨by rfl, ?_⟩) ?_ ?_; rotate_left; (focus intro w'; go_simp; with_reducible rfl); rotate_left; (focus simp only [pt, i64_w, i32_w]; rfl)
                refine pure_ (i := 5) (N := some 36) (v := ?_) (a' := ?_) #[true, true, true, true, false, true, false, false] rfl rfl (any_of HT_.out (by kernel_rfl)) (fun _ _ _ h => h) (Or.inl ⟨by rfl, ?_⟩) ?_ ?_; rotate_left; (focus intro w'; go_simp; with_reducible rfl); rotate_left; (focus simp only [pt, i64_w, i32_w]; rfl)
                refine take_ (i := 4) (N := some 35) (v := ?_) (a' := ?_) #[true, true, true, true, true, true, false, false] rfl rfl (take_ofW HT_.out HW_.out (by kernel_rfl)) (fun _ _ _ h => h) (Or.inl ⟨by rfl, ?_⟩) hHeld ?_ ?_; rotate_left; (focus rintro w' ⟨s0, s1, s2, s3, s4⟩; go_simp; with_reducible rfl); rotate_left; (focus simp only [pt, i64_w, i32_w]; rfl)
                refine one_ (i := 6) (N := some 37) #[true, true, true, true, true, true, true, false] rfl rfl (one_of HT_.out (by kernel_rfl)) (by decide) (fun K hK => ?_)
                refine goes_ Try.func48 (by kernel_rfl) rfl #[.int .i64 (wrap64 ((wrap64 (x1_1 + 1)) + 1))] (by rfl) rfl rfl gA ?_
                with_reducible refine (laws_markText.calls k1 (wrap64 ((wrap64 (x1_1 + 1)) + 1)) t500 _ A8.out).mono ?_
                rintro e w37 ⟨rfl, hb⟩
                refine ⟨_, rfl, ?_⟩
                have n0_ := Aside0.mk (below_step (w := w) bW hb)
                clear HB
                have HB := n0_
                clear n0_
                (try clear hb)
                (try clear hb2)
                (try clear hk)
                (try clear hi)
                refine hK.out _ _ ⟨((HB.out.cell (World.block_lt_of_cell? w _ hw499_0)).trans hw499_0), ((HB.out.cell (World.block_lt_of_cell? w _ hw499_1)).trans hw499_1), ((HB.out.cell (World.block_lt_of_cell? w _ hw499_2)).trans hw499_2), ((HB.out.cell (World.block_lt_of_cell? w _ hw499_3)).trans hw499_3), ((HB.out.cell (World.block_lt_of_cell? w _ hw499_4)).trans hw499_4)⟩ (fun hHeld => ?_)
                clear hK K
                refine norm_ (a' := ?_) ?_ ?_
                rotate_left
                · show Act.put _ (some 37) _ = _
                  simp only [Act.put, List.setIfInBounds_toArray, List.set_cons_zero, List.set_cons_succ, i64_w, i32_w]
                  rfl
                refine pure_ (i := 7) (N := some 38) (v := ?_) (a' := ?_) #[true, true, true, true, true, true, true, true] rfl rfl (any_of HT_.out (by kernel_rfl)) (fun _ _ _ h => h) (Or.inl ⟨by rfl, ?_⟩) ?_ ?_; rotate_left; (focus intro w'; go_simp; with_reducible rfl); rotate_left; (focus simp only [pt, i64_w, i32_w]; rfl)
                refine done_ (done_of HT_.out (by kernel_rfl)) ?_
                try go_wp2
                go_ret
                exact ⟨rE, bW⟩
            · rw [if_neg c7] at H
              have c7b0 : (((rd_T94 l0 x5_1).f1).toList == t498.toList) = false := beq_eq_false_iff_ne.mpr c7
              have c7b1 : (((rd_T94 l0 x5_1).f1).toList != t498.toList) = true := bne_iff_ne.mpr c7
              obtain rfl := Option.some.inj H
              have p496 : 0 ≤ (x5_1 : Int) := odt
              have q496 : x5_1 < (l0.length : Int) := odt
              obtain ⟨ad496, A496_4, c496_4, e496, hx496_0, hx496_1, hx496_2, hx496_3, hx496_4, hl496_4, hi496_4⟩ := at_T94 HR0.out x5_1 p496 q496
              (try clear hx497_4 hw497_4); (try clear hx497_4)
              (try clear hx499_4 hw499_4); (try clear hx499_4)
              (try clear hx501_4 hw501_4); (try clear hx501_4)
              (try clear hx503_4 hw503_4); (try clear hx503_4)
              (try clear hHeld)
              cases e496
              replace hx496_0 := (HB.out.cell (World.block_lt_of_cell? w _ hx496_0)).trans hx496_0
              replace hx496_1 := (HB.out.cell (World.block_lt_of_cell? w _ hx496_1)).trans hx496_1
              replace hx496_2 := (HB.out.cell (World.block_lt_of_cell? w _ hx496_2)).trans hx496_2
              replace hx496_3 := (HB.out.cell (World.block_lt_of_cell? w _ hx496_3)).trans hx496_3
              replace hx496_4 := (HB.out.cell (World.block_lt_of_cell? w _ hx496_4)).trans hx496_4
              have HR496_4 := Aside0.mk hi496_4
              have HC496_4 := Aside0.mk hl496_4
              clear hi496_4 hl496_4
              replace p496 := eq_true p496
              replace q496 := eq_true q496
              try go_wp2
              have n0_ := Aside0.mk (below_drew1 HB.out)
              clear HB
              have HB := n0_
              clear n0_
              have p497 : 0 ≤ (x5_1 : Int) := odt
              have q497 : x5_1 < (l0.length : Int) := odt
              obtain ⟨ad497, A497_4, c497_4, e497, hx497_0, hx497_1, hx497_2, hx497_3, hx497_4, hl497_4, hi497_4⟩ := at_T94 HR0.out x5_1 p497 q497
              (try clear hx496_4 hw496_4); (try clear hx496_4)
              (try clear hx499_4 hw499_4); (try clear hx499_4)
              (try clear hx501_4 hw501_4); (try clear hx501_4)
              (try clear hx503_4 hw503_4); (try clear hx503_4)
              (try clear hHeld)
              have hw497_4 := hx497_4
              have hw497_3 := hx497_3
              have hw497_2 := hx497_2
              have hw497_1 := hx497_1
              have hw497_0 := hx497_0
              obtain rfl : ad496 = ad497 := (by injection e497)
              replace hx497_0 := (HB.out.cell (World.block_lt_of_cell? w _ hx497_0)).trans hx497_0
              replace hx497_1 := (HB.out.cell (World.block_lt_of_cell? w _ hx497_1)).trans hx497_1
              replace hx497_2 := (HB.out.cell (World.block_lt_of_cell? w _ hx497_2)).trans hx497_2
              replace hx497_3 := (HB.out.cell (World.block_lt_of_cell? w _ hx497_3)).trans hx497_3
              replace hx497_4 := (HB.out.cell (World.block_lt_of_cell? w _ hx497_4)).trans hx497_4
              have HR497_4 := Aside0.mk hi497_4
              have HC497_4 := Aside0.mk hl497_4
              clear hi497_4 hl497_4
              replace p497 := eq_true p497
              replace q497 := eq_true q497
              refine start_ (n := 8) (S := fun w' => w'.cell? (ad496.add ((x5_1).toNat * 5)) = some (.int .i64 ((rd_T94 l0 x5_1).f0)) ∧ w'.cell? ⟨(ad496.add ((x5_1).toNat * 5)).block, (ad496.add ((x5_1).toNat * 5)).off + 1, none⟩ = some (.string ((rd_T94 l0 x5_1).f1)) ∧ w'.cell? ⟨(ad496.add ((x5_1).toNat * 5)).block, (ad496.add ((x5_1).toNat * 5)).off + 2, none⟩ = some (.string ((rd_T94 l0 x5_1).f2)) ∧ w'.cell? ⟨(ad496.add ((x5_1).toNat * 5)).block, (ad496.add ((x5_1).toNat * 5)).off + 3, none⟩ = some (.string ((rd_T94 l0 x5_1).f3)) ∧ w'.cell? ⟨(ad496.add ((x5_1).toNat * 5)).block, (ad496.add ((x5_1).toNat * 5)).off + 4, none⟩ = some (.slice A497_4 ((rd_T94 l0 x5_1).f4).length c497_4)) (ds := []) #[false, false, false, false, false, false, false, false] (by kernel_rfl) rfl rfl ⟨((HB.out.cell (World.block_lt_of_cell? w _ hw497_0)).trans hw497_0), ((HB.out.cell (World.block_lt_of_cell? w _ hw497_1)).trans hw497_1), ((HB.out.cell (World.block_lt_of_cell? w _ hw497_2)).trans hw497_2), ((HB.out.cell (World.block_lt_of_cell? w _ hw497_3)).trans hw497_3), ((HB.out.cell (World.block_lt_of_cell? w _ hw497_4)).trans hw497_4)⟩ (fun hHeld => ?_); refine with_tabW laws_heldWishS.tab7 laws_heldWishS.bits7 (fun HT_ HW_ => ?_)
              generalize wr.drew = w38 at HB HR497_4 hx497_0 hx497_1 hx497_2 hx497_3 hx497_4 hHeld ⊢
              refine pure_ (i := 0) (N := some 21) (v := ?_) (a' := ?_) #[true, false, false, false, false, false, false, false] rfl rfl (any_of HT_.out (by kernel_rfl)) (fun _ _ _ h => h) (Or.inl ⟨by rfl, ?_⟩) ?_ ?_; rotate_left; (focus intro w'; go_simp; with_reducible rfl); rotate_left; (focus simp only [pt, i64_w, i32_w]; rfl)
              refine pure_ (i := 1) (N := some 22) (v := ?_) (a' := ?_) #[true, true, false, false, false, false, false, false] rfl rfl (any_of HT_.out (by kernel_rfl)) (fun _ _ _ h => h) (Or.inl ⟨by rfl, ?_⟩) ?_ ?_; rotate_left; (focus intro w'; go_simp; with_reducible rfl); rotate_left; (focus simp only [pt, i64_w, i32_w]; rfl)
              refine pure_ (i := 2) (N := some 23) (v := ?_) (a' := ?_) #[true, true, true, false, false, false, false, false] rfl rfl (any_of HT_.out (by kernel_rfl)) (fun _ _ _ h => h) (Or.inl ⟨by rfl, ?_⟩) ?_ ?_; rotate_left; (focus intro w'; go_simp; with_reducible rfl); rotate_left; (focus simp only [pt, i64_w, i32_w]; rfl)
              refine pure_ (i := 3) (N := some 24) (v := ?_) (a' := ?_) #[true, true, true, true, false, false, false, false] rfl rfl (any_of HT_.out (by kernel_rfl)) (fun _ _ _ h => h) (Or.inl ⟨by rfl, ?_⟩) ?_ ?_; rotate_left; (focus intro w'; go_simp; with_reducible rfl); rotate_left; (focus simp only [pt, i64_w, i32_w]; rfl)
              refine pure_ (i := 5) (N := some 26) (v := ?_) (a' := ?_) #[true, true, true, true, false, true, false, false] rfl rfl (any_of HT_.out (by kernel_rfl)) (fun _ _ _ h => h) (Or.inl ⟨by rfl, ?_⟩) ?_ ?_; rotate_left; (focus intro w'; go_simp; with_reducible rfl); rotate_left; (focus simp only [pt, i64_w, i32_w]; rfl)
              refine take_ (i := 4) (N := some 25) (v := ?_) (a' := ?_) #[true, true, true, true, true, true, false, false] rfl rfl (take_ofW HT_.out HW_.out (by kernel_rfl)) (fun _ _ _ h => h) (Or.inl ⟨by rfl, ?_⟩) hHeld ?_ ?_; rotate_left; (focus rintro w' ⟨s0, s1, s2, s3, s4⟩; go_simp; with_reducible rfl); rotate_left; (focus simp only [pt, i64_w, i32_w]; rfl)
              refine one_ (i := 6) (N := some 27) #[true, true, true, true, true, true, true, false] rfl rfl (one_of HT_.out (by kernel_rfl)) (by decide) (fun K hK => ?_)
              refine goes_ Try.func48 (by kernel_rfl) rfl #[.int .i64 (wrap64 (x1_1 + 1))] (by rfl) rfl rfl gA ?_
              with_reducible refine (laws_markText.calls k1 (wrap64 (x1_1 + 1)) t498 _ A6.out).mono ?_
              rintro e w39 ⟨rfl, hb⟩
              refine ⟨_, rfl, ?_⟩
              have n0_ := Aside0.mk (below_step (w := w) bW hb)
              clear HB
              have HB := n0_
              clear n0_
              (try clear hb)
              (try clear hb2)
              (try clear hk)
              (try clear hi)
              refine hK.out _ _ ⟨((HB.out.cell (World.block_lt_of_cell? w _ hw497_0)).trans hw497_0), ((HB.out.cell (World.block_lt_of_cell? w _ hw497_1)).trans hw497_1), ((HB.out.cell (World.block_lt_of_cell? w _ hw497_2)).trans hw497_2), ((HB.out.cell (World.block_lt_of_cell? w _ hw497_3)).trans hw497_3), ((HB.out.cell (World.block_lt_of_cell? w _ hw497_4)).trans hw497_4)⟩ (fun hHeld => ?_)
              clear hK K
              refine norm_ (a' := ?_) ?_ ?_
              rotate_left
              · show Act.put _ (some 27) _ = _
                simp only [Act.put, List.setIfInBounds_toArray, List.set_cons_zero, List.set_cons_succ, i64_w, i32_w]
                rfl
              refine pure_ (i := 7) (N := some 28) (v := ?_) (a' := ?_) #[true, true, true, true, true, true, true, true] rfl rfl (any_of HT_.out (by kernel_rfl)) (fun _ _ _ h => h) (Or.inl ⟨by rfl, ?_⟩) ?_ ?_; rotate_left; (focus intro w'; go_simp; with_reducible rfl); rotate_left; (focus simp only [pt, i64_w, i32_w]; rfl)
              refine done_ (done_of HT_.out (by kernel_rfl)) ?_
              try go_wp2
              go_ret
              exact ⟨rE, bW⟩
          · rw [if_neg c5] at H
            have c5b0 : (((rd_T94 l0 x5_1).f0) == x1_1) = false := beq_eq_false_iff_ne.mpr c5
            have c5b1 : (((rd_T94 l0 x5_1).f0) != x1_1) = true := bne_iff_ne.mpr c5
            obtain rfl := Option.some.inj H
            have p496 : 0 ≤ (x5_1 : Int) := odt
            have q496 : x5_1 < (l0.length : Int) := odt
            obtain ⟨ad496, A496_4, c496_4, e496, hx496_0, hx496_1, hx496_2, hx496_3, hx496_4, hl496_4, hi496_4⟩ := at_T94 HR0.out x5_1 p496 q496
            (try clear hx497_4 hw497_4); (try clear hx497_4)
            (try clear hx499_4 hw499_4); (try clear hx499_4)
            (try clear hx501_4 hw501_4); (try clear hx501_4)
            (try clear hx503_4 hw503_4); (try clear hx503_4)
            (try clear hHeld)
            cases e496
            replace hx496_0 := (HB.out.cell (World.block_lt_of_cell? w _ hx496_0)).trans hx496_0
            replace hx496_1 := (HB.out.cell (World.block_lt_of_cell? w _ hx496_1)).trans hx496_1
            replace hx496_2 := (HB.out.cell (World.block_lt_of_cell? w _ hx496_2)).trans hx496_2
            replace hx496_3 := (HB.out.cell (World.block_lt_of_cell? w _ hx496_3)).trans hx496_3
            replace hx496_4 := (HB.out.cell (World.block_lt_of_cell? w _ hx496_4)).trans hx496_4
            have HR496_4 := Aside0.mk hi496_4
            have HC496_4 := Aside0.mk hl496_4
            clear hi496_4 hl496_4
            replace p496 := eq_true p496
            replace q496 := eq_true q496
            go_wp2
            go_ret
            exact ⟨rE, bW⟩
        · rw [if_neg c4] at H
          exact absurd H (by simp)
      · rw [if_neg c3] at H
        have c3b0 : decide (x5_1 < (l0.length : Int)) = false := decide_eq_false c3
        clear c3
        obtain rfl := Option.some.inj H
        go_wp2
        go_ret
        exact ⟨rE, bW⟩
end Go.Proofs.Ytjkddaokhmflbaa.Q
end

section
namespace Go.Proofs.Ytjkddaokhmflbaa.Q
open Go.RowKit Go.Proofs.YtjkddaokhmflbaaW.PrintWords Go.Proofs.YtjkddaokhmflbaaW.PrintLast Go.Proofs.YtjkddaokhmflbaaW.PrintMore
attribute [local go_sem] max2_int min2_int max_two min_two max_three min_three max_four min_four   -- for this text's walks alone
set_option linter.unusedVariables false
set_option linter.unusedSimpArgs false
attribute [local go_sem] bin_leq bin_gtr bin_geq
def laws_heldClient.f (k : Nat) (l0_0 : List (S94)) (a0_1 : Int) (a0_2 : Int) (a0_3 : Int) (a0_4 : Int) (a0_5 : Int) (a0_6 : Int) (a0_7 : Int) (l0_8 : List (S74)) (a1 : Int) : Option (Int) := (laws_heldWishS.f k l0_0 a1).bind fun t506 => (if t506 < 0 then (some (-1)) else ((laws_heldEntryS.f k l0_8 t506).bind fun t507 => (if t507 < 0 then (some (-1)) else (some t507))))
set_option maxHeartbeats 8000000 in
set_option maxRecDepth 100000 in
theorem laws_heldClient.calls (k : Nat) (A0_0 : Option Addr) (c0_0 : Nat) (l0_0 : List (S94)) (a0_1 : Int) (a0_2 : Int) (a0_3 : Int) (a0_4 : Int) (a0_5 : Int) (a0_6 : Int) (a0_7 : Int) (A0_8 : Option Addr) (c0_8 : Nat) (l0_8 : List (S74)) (a1 : Int) (r : Int) (w : World) (hr0_0 : Kd.C k94 w A0_0 l0_0.length l0_0) (hc0_0 : l0_0.length ≤ c0_0) (hr0_8 : Kd.C k74 w A0_8 l0_8.length l0_8) (hc0_8 : l0_8.length ≤ c0_8) (h : laws_heldClient.f k l0_0 a0_1 a0_2 a0_3 a0_4 a0_5 a0_6 a0_7 l0_8 a1 = some r) :
    Calls Try.prog 28 #[.agg #[.slice A0_0 l0_0.length c0_0, .int .i64 a0_1, .int .i64 a0_2, .int .i64 a0_3, .int .i64 a0_4, .int .i64 a0_5, .int .i64 a0_6, .int .i64 a0_7, .slice A0_8 l0_8.length c0_8], .int .i64 a1] w fun e w' => e = .returned (.int .i64 r) ∧ Below w.heap.size w w' := by
  have hu49 := Try.underlying49
  have HR0_0 := Aside0.mk hr0_0
  have HC0_0 := Aside0.mk hc0_0
  clear hr0_0 hc0_0
  have HR0_8 := Aside0.mk hr0_8
  have HC0_8 := Aside0.mk hc0_8
  clear hr0_8 hc0_8
  have HB := Aside0.mk (Below.refl w.heap.size w)
  have H : ((laws_heldWishS.f k l0_0 a1).bind fun t506 => (if t506 < 0 then (some (-1)) else ((laws_heldEntryS.f k l0_8 t506).bind fun t507 => (if t507 < 0 then (some (-1)) else (some t507))))) = some r := h
  clear h
  replace H := Option.bind_eq_some_iff.mp H
  obtain ⟨t506, A30, H⟩ := H
  replace H : (if t506 < 0 then (some (-1)) else ((laws_heldEntryS.f k l0_8 t506).bind fun t507 => (if t507 < 0 then (some (-1)) else (some t507)))) = some r := H
  have A3 := Aside0.mk A30
  clear A30
  by_cases c4 : t506 < 0
  · rw [if_pos c4] at H
    have c4b0 : decide (t506 < 0) = true := decide_eq_true c4
    clear c4
    obtain rfl := Option.some.inj H
    go_enter Try.func28, Try.ntmps28
    go_wp2_with (first | ((with_reducible refine gate_dst (N := 2) rfl ?_); refine bE (N := 2) (cs := #[.slice A0_0 l0_0.length c0_0, .int .i64 a0_1, .int .i64 a0_2, .int .i64 a0_3, .int .i64 a0_4, .int .i64 a0_5, .int .i64 a0_6, .int .i64 a0_7, .slice A0_8 l0_8.length c0_8]) (t := 49) ?_; intro gb505 hg w5 hbox hb; have n0_ := Aside0.mk (below_step (w := w) bW hb); have n1_ := Aside0.mk (hbox); have n2_ := Aside0.mk (gS (w := w) hg); have n3_ := n2_; clear HB; have HB := n0_; have BK505 := n1_; have GW505 := n2_; have GE505 := n3_; clear n0_ n1_ n2_ n3_; clear hb hbox hg; obtain ⟨hcz6_0, hcz6_1, hcz6_2, hcz6_3, hcz6_4, hcz6_5, hcz6_6, hcz6_7, hcz6_8⟩ := cz9 BK505; obtain ⟨hfz6_0, hfz6_1, hfz6_2, hfz6_3, hfz6_4, hfz6_5, hfz6_6, hfz6_7, hfz6_8⟩ := fz9 BK505) | ((with_reducible refine gate_callee (f := 63) rfl ?_); refine goesL_ (some 8) rfl rfl Try.func63 (by kernel_rfl) rfl #[.slice A0_0 l0_0.length c0_0, .int .i64 a1] rfl gA ?_; (with_reducible refine (laws_heldWishS.calls k _ _ l0_0 a1 t506 _ ?side1 ?side2 A3.out).mono ?_); (case side1 => exact cB HR0_0); (case side2 => exact HC0_0.out); rintro e w7 ⟨rfl, hb⟩; refine ⟨_, rfl, ?_⟩; have n0_ := Aside0.mk (kb BK505 hb); have n1_ := Aside0.mk (below_step (w := w) bW hb); clear BK505; clear HB; have BK505 := n0_; have HB := n1_; clear n0_ n1_; (try clear hb); (try clear hb2); (try clear hk); (try clear hi)))
    go_ret
    exact ⟨rE, bW⟩
  · rw [if_neg c4] at H
    have c4b0 : decide (t506 < 0) = false := decide_eq_false c4
    clear c4
    replace H := Option.bind_eq_some_iff.mp H
    obtain ⟨t507, A80, H⟩ := H
    replace H : (if t507 < 0 then (some (-1)) else (some t507)) = some r := H
    have A8 := Aside0.mk A80
    clear A80
    by_cases c9 : t507 < 0
    · rw [if_pos c9] at H
      have c9b0 : decide (t507 < 0) = true := decide_eq_true c9
      clear c9
      obtain rfl := Option.some.inj H
      go_enter Try.func28, Try.ntmps28
      go_wp2_with (first | ((with_reducible refine gate_dst (N := 2) rfl ?_); refine bE (N := 2) (cs := #[.slice A0_0 l0_0.length c0_0, .int .i64 a0_1, .int .i64 a0_2, .int .i64 a0_3, .int .i64 a0_4, .int .i64 a0_5, .int .i64 a0_6, .int .i64 a0_7, .slice A0_8 l0_8.length c0_8]) (t := 49) ?_; intro gb505 hg w10 hbox hb; have n0_ := Aside0.mk (below_step (w := w) bW hb); have n1_ := Aside0.mk (hbox); have n2_ := Aside0.mk (gS (w := w) hg); have n3_ := n2_; clear HB; have HB := n0_; have BK505 := n1_; have GW505 := n2_; have GE505 := n3_; clear n0_ n1_ n2_ n3_; clear hb hbox hg; obtain ⟨hcz11_0, hcz11_1, hcz11_2, hcz11_3, hcz11_4, hcz11_5, hcz11_6, hcz11_7, hcz11_8⟩ := cz9 BK505; obtain ⟨hfz11_0, hfz11_1, hfz11_2, hfz11_3, hfz11_4, hfz11_5, hfz11_6, hfz11_7, hfz11_8⟩ := fz9 BK505) | ((with_reducible refine gate_callee (f := 63) rfl ?_); refine goesL_ (some 8) rfl rfl Try.func63 (by kernel_rfl) rfl #[.slice A0_0 l0_0.length c0_0, .int .i64 a1] rfl gA ?_; (with_reducible refine (laws_heldWishS.calls k _ _ l0_0 a1 t506 _ ?side1 ?side2 A3.out).mono ?_); (case side1 => exact cB HR0_0); (case side2 => exact HC0_0.out); rintro e w12 ⟨rfl, hb⟩; refine ⟨_, rfl, ?_⟩; have n0_ := Aside0.mk (kb BK505 hb); have n1_ := Aside0.mk (below_step (w := w) bW hb); clear BK505; clear HB; have BK505 := n0_; have HB := n1_; clear n0_ n1_; (try clear hb); (try clear hb2); (try clear hk); (try clear hi); obtain ⟨hcz13_0, hcz13_1, hcz13_2, hcz13_3, hcz13_4, hcz13_5, hcz13_6, hcz13_7, hcz13_8⟩ := cz9 BK505; obtain ⟨hfz13_0, hfz13_1, hfz13_2, hfz13_3, hfz13_4, hfz13_5, hfz13_6, hfz13_7, hfz13_8⟩ := fz9 BK505) | ((with_reducible refine gate_callee (f := 38) rfl ?_); refine goesL_ (some 14) rfl rfl Try.func38 (by kernel_rfl) rfl #[.slice A0_8 l0_8.length c0_8, .int .i64 t506] rfl gA ?_; (with_reducible refine (laws_heldEntryS.calls k _ _ l0_8 t506 t507 _ ?side1 ?side2 A8.out).mono ?_); (case side1 => exact cB HR0_8); (case side2 => exact HC0_8.out); rintro e w14 ⟨rfl, hb⟩; refine ⟨_, rfl, ?_⟩; have n0_ := Aside0.mk (kb BK505 hb); have n1_ := Aside0.mk (below_step (w := w) bW hb); clear BK505; clear HB; have BK505 := n0_; have HB := n1_; clear n0_ n1_; (try clear hb); (try clear hb2); (try clear hk); (try clear hi)))
      go_ret
      exact ⟨rE, bW⟩
    · rw [if_neg c9] at H
      have c9b0 : decide (t507 < 0) = false := decide_eq_false c9
      clear c9
      obtain rfl := Option.some.inj H
      go_enter Try.func28, Try.ntmps28
      go_wp2_with (first | ((with_reducible refine gate_dst (N := 2) rfl ?_); refine bE (N := 2) (cs := #[.slice A0_0 l0_0.length c0_0, .int .i64 a0_1, .int .i64 a0_2, .int .i64 a0_3, .int .i64 a0_4, .int .i64 a0_5, .int .i64 a0_6, .int .i64 a0_7, .slice A0_8 l0_8.length c0_8]) (t := 49) ?_; intro gb505 hg w15 hbox hb; have n0_ := Aside0.mk (below_step (w := w) bW hb); have n1_ := Aside0.mk (hbox); have n2_ := Aside0.mk (gS (w := w) hg); have n3_ := n2_; clear HB; have HB := n0_; have BK505 := n1_; have GW505 := n2_; have GE505 := n3_; clear n0_ n1_ n2_ n3_; clear hb hbox hg; obtain ⟨hcz16_0, hcz16_1, hcz16_2, hcz16_3, hcz16_4, hcz16_5, hcz16_6, hcz16_7, hcz16_8⟩ := cz9 BK505; obtain ⟨hfz16_0, hfz16_1, hfz16_2, hfz16_3, hfz16_4, hfz16_5, hfz16_6, hfz16_7, hfz16_8⟩ := fz9 BK505) | ((with_reducible refine gate_callee (f := 63) rfl ?_); refine goesL_ (some 8) rfl rfl Try.func63 (by kernel_rfl) rfl #[.slice A0_0 l0_0.length c0_0, .int .i64 a1] rfl gA ?_; (with_reducible refine (laws_heldWishS.calls k _ _ l0_0 a1 t506 _ ?side1 ?side2 A3.out).mono ?_); (case side1 => exact cB HR0_0); (case side2 => exact HC0_0.out); rintro e w17 ⟨rfl, hb⟩; refine ⟨_, rfl, ?_⟩; have n0_ := Aside0.mk (kb BK505 hb); have n1_ := Aside0.mk (below_step (w := w) bW hb); clear BK505; clear HB; have BK505 := n0_; have HB := n1_; clear n0_ n1_; (try clear hb); (try clear hb2); (try clear hk); (try clear hi); obtain ⟨hcz18_0, hcz18_1, hcz18_2, hcz18_3, hcz18_4, hcz18_5, hcz18_6, hcz18_7, hcz18_8⟩ := cz9 BK505; obtain ⟨hfz18_0, hfz18_1, hfz18_2, hfz18_3, hfz18_4, hfz18_5, hfz18_6, hfz18_7, hfz18_8⟩ := fz9 BK505) | ((with_reducible refine gate_callee (f := 38) rfl ?_); refine goesL_ (some 14) rfl rfl Try.func38 (by kernel_rfl) rfl #[.slice A0_8 l0_8.length c0_8, .int .i64 t506] rfl gA ?_; (with_reducible refine (laws_heldEntryS.calls k _ _ l0_8 t506 t507 _ ?side1 ?side2 A8.out).mono ?_); (case side1 => exact cB HR0_8); (case side2 => exact HC0_8.out); rintro e w19 ⟨rfl, hb⟩; refine ⟨_, rfl, ?_⟩; have n0_ := Aside0.mk (kb BK505 hb); have n1_ := Aside0.mk (below_step (w := w) bW hb); clear BK505; clear HB; have BK505 := n0_; have HB := n1_; clear n0_ n1_; (try clear hb); (try clear hb2); (try clear hk); (try clear hi)))
      go_ret
      exact ⟨rE, bW⟩
end Go.Proofs.Ytjkddaokhmflbaa.Q
end

section
namespace Go.Proofs.Ytjkddaokhmflbaa.Q
open Go.RowKit Go.Proofs.YtjkddaokhmflbaaW.PrintWords Go.Proofs.YtjkddaokhmflbaaW.PrintLast Go.Proofs.YtjkddaokhmflbaaW.PrintMore
attribute [local go_sem] max2_int min2_int max_two min_two max_three min_three max_four min_four   -- for this text's walks alone
set_option linter.unusedVariables false
set_option linter.unusedSimpArgs false
attribute [local go_sem] bin_leq bin_gtr bin_geq
theorem bV {b : Nat} {w w' : World} (h : Below b w w' := by repeat (first | (with_reducible first | exact HBW.out | apply below_alloc | apply pw_below_drewN | apply below_drew1 | (refine below_set ?_ (Aside0.out ?_); rotate_left; assumption)) | exact HBW.out)) : Below b w w' := h
theorem bU {b : Nat} {w w' : World} (h : Below b w w' := by repeat (first | (with_reducible first | exact HBX.out | apply below_alloc | apply pw_below_drewN | apply below_drew1 | (refine below_set ?_ (Aside0.out ?_); rotate_left; assumption)) | exact HBX.out)) : Below b w w' := h
theorem laws_FnExactNewClient.hb (k : Nat) (A0 : Option Addr) (n0 c0 : Nat) (l0 : List S94) (b1 b2 b3 b4 b5 b6 b7 : Int) (A1 : Option Addr) (n1 c1 : Nat) (l1 : List S74) (a1 r : Int) (w : World) (h0 : Kd.C k94 w A0 l0.length l0) (hc0 : n0 ≤ c0) (e0 : n0 = l0.length) (h1 : Kd.C k74 w A1 l1.length l1) (hc1 : n1 ≤ c1) (e1 : n1 = l1.length) (h : laws_heldClient.f k l0 b1 b2 b3 b4 b5 b6 b7 l1 a1 = some r) :
    Calls Try.prog 28 #[.agg #[.slice A0 n0 c0, .int .i64 b1, .int .i64 b2, .int .i64 b3, .int .i64 b4, .int .i64 b5, .int .i64 b6, .int .i64 b7, .slice A1 n1 c1], .int .i64 a1] w fun e w' => e = .returned (.int .i64 r) ∧ Below w.heap.size w w' := by
  subst e0
  subst e1
  exact laws_heldClient.calls k A0 c0 l0 b1 b2 b3 b4 b5 b6 b7 A1 c1 l1 a1 r w h0 hc0 h1 hc1 h
def laws_FnExactNewClient.f (k : Nat) (l0 : List S89) : Option Bool := (laws_szWishS.f k l0 1048576).bind fun left => if left < 0 then some true else
  (laws_toWishS.f k l0).bind fun v => (spec_NewClient.f k v).bind fun W => (impl_NewClient.f k v).bind fun G => (laws_eqClient.f k (G.1) (G.2.1) (G.2.2.1) (G.2.2.2.1) (G.2.2.2.2.1) (G.2.2.2.2.2.1) (G.2.2.2.2.2.2.1) (G.2.2.2.2.2.2.2.1) (G.2.2.2.2.2.2.2.2.1) (W.1) (W.2.1) (W.2.2.1) (W.2.2.2.1) (W.2.2.2.2.1) (W.2.2.2.2.2.1) (W.2.2.2.2.2.2.1) (W.2.2.2.2.2.2.2.1) (W.2.2.2.2.2.2.2.2.1)).bind fun e1 => (laws_eqWishS.f k v v).bind fun e2 => (laws_markWishS.f k v 1).bind fun mk => (laws_markClient.f k G.1 (G.2.2.2.2.2.2.2.2.1) 1).bind fun mb => (laws_heldClient.f k mb.2.1 (G.2.1) (G.2.2.1) (G.2.2.2.1) (G.2.2.2.2.1) (G.2.2.2.2.2.1) (G.2.2.2.2.2.2.1) (G.2.2.2.2.2.2.2.1) mb.2.2 1).bind fun q =>
  if e1 = true ∧ G.2.2.2.2.2.2.2.2.2 = W.2.2.2.2.2.2.2.2.2 ∧ e2 = true ∧ 0 ≤ mk.1 ∧ q = mb.1 ∧ 0 ≤ q then some true else none
set_option maxHeartbeats 8000000 in
set_option maxRecDepth 100000 in
theorem laws_FnExactNewClient.calls (k : Nat) (A0 : Option Addr) (c0 : Nat) (l0 : List S89) (w : World) (hr0 : Kd.C k89 w A0 l0.length l0) (hc0 : l0.length ≤ c0) (h : laws_FnExactNewClient.f k l0 = some true) :
    Calls Try.prog 5 #[.slice A0 l0.length c0] w fun e w' => e = .returned (.bool true) ∧ Below w.heap.size w w' := by
  have HR0 := Aside0.mk hr0
  have HC0 := Aside0.mk hc0
  clear hr0 hc0
  have HB := Aside0.mk (Below.refl w.heap.size w)
  unfold laws_FnExactNewClient.f at h
  obtain ⟨t1, A1, H⟩ := Option.bind_eq_some_iff.mp h
  have ASZ := Aside0.mk A1
  clear A1 h
  by_cases c1 : t1 < 0
  · have c1b : decide (t1 < 0) = true := decide_eq_true c1
    clear c1 H
    go_enter Try.func5, Try.ntmps5
    go_wp2_with (first
      | (go_at_call 20; (with_reducible refine (laws_szWishS.calls k A0 c0 l0 1048576 t1 _ ?s1 ?s2 ASZ.out).mono ?_); (case s1 => exact cB HR0); (case s2 => exact HC0.out); rintro e w1 ⟨rfl, hb⟩; have nHB := Aside0.mk (below_step (w := w) bW hb); clear HB; have HB := nHB; clear nHB; clear hb))
    go_ret
    exact ⟨rfl, bW⟩
  have c1b : decide (t1 < 0) = false := decide_eq_false c1
  rw [if_neg c1] at H
  clear c1
  obtain ⟨v5, A2, H⟩ := Option.bind_eq_some_iff.mp H
  obtain ⟨⟨rW1, rW2, rW3, rW4, rW5, rW6, rW7, rW8, rW9, rW10⟩, A3, H⟩ := Option.bind_eq_some_iff.mp H
  obtain ⟨⟨r1, r2, r3, r4, r5, r6, r7, r8, r9, r10⟩, A4, H⟩ := Option.bind_eq_some_iff.mp H
  obtain ⟨e1, A5, H⟩ := Option.bind_eq_some_iff.mp H
  obtain ⟨e2, A6, H⟩ := Option.bind_eq_some_iff.mp H
  obtain ⟨⟨mk1, mk2⟩, A7, H⟩ := Option.bind_eq_some_iff.mp H
  obtain ⟨⟨mb1, mb2, mb3⟩, A8, H⟩ := Option.bind_eq_some_iff.mp H
  obtain ⟨q, A9, H⟩ := Option.bind_eq_some_iff.mp H
  have H2 : e1 = true ∧ r10 = rW10 ∧ e2 = true ∧ 0 ≤ mk1 ∧ q = mb1 ∧ 0 ≤ q := by
    by_cases hc : e1 = true ∧ r10 = rW10 ∧ e2 = true ∧ 0 ≤ mk1 ∧ q = mb1 ∧ 0 ≤ q
    · exact hc
    · exact absurd ((if_neg hc).symm.trans H) (by simp)
  clear H
  obtain ⟨rfl, rfl, rfl, hmk, rfl, hq⟩ := H2
  have c2b : decide (mk1 < 0) = false := decide_eq_false (by omega)
  have c3b : decide (q < 0) = false := decide_eq_false (by omega)
  clear hmk hq
  have AV := Aside0.mk A2
  have AW := Aside0.mk (show spec_NewClient.f k v5 = some (rW1, rW2, rW3, rW4, rW5, rW6, rW7, rW8, rW9, r10) from A3)
  have AG := Aside0.mk (show impl_NewClient.f k v5 = some (r1, r2, r3, r4, r5, r6, r7, r8, r9, r10) from A4)
  have AE := Aside0.mk (show laws_eqClient.f k r1 r2 r3 r4 r5 r6 r7 r8 r9 rW1 rW2 rW3 rW4 rW5 rW6 rW7 rW8 rW9 = some true from A5)
  have AX := Aside0.mk A6
  have AM := Aside0.mk (show laws_markWishS.f k v5 1 = some (mk1, mk2) from A7)
  have AMB := Aside0.mk (show laws_markClient.f k r1 r9 1 = some (q, mb2, mb3) from A8)
  have AH := Aside0.mk (show laws_heldClient.f k mb2 r2 r3 r4 r5 r6 r7 r8 mb3 1 = some q from A9)
  clear A2 A3 A4 A5 A6 A7 A8 A9
  go_enter Try.func5, Try.ntmps5
  go_upto_region 5 with (first
    | (go_at_call 20; (with_reducible refine (laws_szWishS.calls k A0 c0 l0 1048576 t1 _ ?s1 ?s2 ASZ.out).mono ?_); (case s1 => exact cB HR0); (case s2 => exact HC0.out); rintro e w1 ⟨rfl, hb⟩; have nHB := Aside0.mk (below_step (w := w) bW hb); clear HB; have HB := nHB; clear nHB; clear hb))
  go_upto_region 6 with (first
    | (go_at_call 22; (with_reducible refine (laws_toWishS.calls k A0 c0 l0 v5 _ ?s1 ?s2 AV.out).mono ?_); (case s1 => exact cB HR0); (case s2 => exact HC0.out); rintro e w2 ⟨v2, rfl, ho, hb⟩; have nHB := Aside0.mk (below_step (w := w) bW hb); clear HB; have HB := nHB; clear nHB; have HV := Aside0.mk ho; clear ho hb; obtain ⟨Av, cv, ev⟩ := Kd.S_slice HV.out; subst ev)
    | (go_at_call 21; (with_reducible refine (spec_NewClient.calls k _ _ v5 rW1 rW2 rW3 rW4 rW5 rW6 rW7 rW8 rW9 r10 _ ?s1 ?s2 AW.out).mono ?_); (case s1 => repeat (first | exact (Kd.S_reads' HV.out).2.2 | (with_reducible refine Kd.C_alloc ?_ _) | (with_reducible refine Kd.C_drewN ?_ _) | (with_reducible refine Kd.C_drew ?_))); (case s2 => exact (Kd.S_reads' HV.out).2.1); rintro e w3 ⟨z0, z1, rfl, hn, hr, hb⟩; have nHB := Aside0.mk (below_step (w := w) bW hb); clear HB; have HB := nHB; clear nHB; have HB3 := Aside0.mk HB.out; have HBW := Aside0.mk (Below.refl w3.heap.size w3); obtain ⟨AW0, cW0, ez0⟩ := Kd.S_slice hn; subst ez0; obtain ⟨AW1, cW1, ez1⟩ := Kd.R_slice hr; subst ez1; have CW0 := Aside0.mk (Kd.S_reads' hn).2.2; have LW0 := Aside0.mk (Kd.S_reads' hn).2.1; have CW1 := Aside0.mk (Kd.R_reads' hr).2.2; have LW1 := Aside0.mk (Kd.R_reads' hr).2.1; clear hn hr hb HV))
  obtain ⟨w4, hw4⟩ : ∃ w_ : World, w_ = w3.alloc (.cells #[.slice AW0 rW1.length cW0, .int .i64 rW2, .int .i64 rW3, .int .i64 rW4, .int .i64 rW5, .int .i64 rW6, .int .i64 rW7, .int .i64 rW8, .slice AW1 rW9.length cW1] 49 (0, 0)) := ⟨_, rfl⟩
  rw [← hw4]
  have nBK4 : Aside0 (w4.heap[w3.heap.size]? = some (.cells #[.slice AW0 rW1.length cW0, .int .i64 rW2, .int .i64 rW3, .int .i64 rW4, .int .i64 rW5, .int .i64 rW6, .int .i64 rW7, .int .i64 rW8, .slice AW1 rW9.length cW1] 49 (0, 0))) := Aside0.mk (by rw [hw4]; exact heap_alloc_new w3 _)
  have nHB : Aside0 (Below w.heap.size w w4) := Aside0.mk (by rw [hw4]; exact below_alloc HB.out _)
  have nHBW : Aside0 (Below w3.heap.size w3 w4) := Aside0.mk (by rw [hw4]; exact below_alloc HBW.out _)
  (try clear BK4); have BK4 := nBK4; clear nBK4; (try clear HB); have HB := nHB; clear nHB; (try clear HBW); have HBW := nHBW; clear nHBW
  clear hw4
  have G4 := Aside0.mk (blk_lt BK4.out)
  go_upto_region 7 with (first
    | (go_at_call 22; (with_reducible refine (laws_toWishS.calls k A0 c0 l0 v5 _ ?s1 ?s2 AV.out).mono ?_); (case s1 => exact cB HR0); (case s2 => exact HC0.out); rintro e w6 ⟨v6, rfl, ho, hb⟩; have HX := Aside0.mk (Kd.S_lower (Kd.S_mono (ok' := fun k_ => w3.heap.size < k_ ∧ k_ < w6.heap.size) (Kd.S_bound ho) (fun k_ hk => ⟨Nat.lt_of_lt_of_le G4.out hk.2.1, hk.2.2.1⟩)) (below_size (w := w3) bV)); have HBX := Aside0.mk (Below.refl w6.heap.size w6); have LE6 := Aside0.mk (show w3.heap.size ≤ w6.heap.size from Nat.le_trans (below_size (w := w3) bV) hb.size); have L46 := Aside0.mk (Nat.lt_of_lt_of_le G4.out hb.size); have nHB := Aside0.mk (below_step (w := w) bW hb); have nHBW := Aside0.mk (below_step (w := w3) bV hb); have nBK4 := Aside0.mk (kb BK4 hb); clear HB; have HB := nHB; clear nHB; clear HBW; have HBW := nHBW; clear nHBW; clear BK4; have BK4 := nBK4; clear nBK4; clear ho hb; obtain ⟨aX, cX, ex⟩ := Kd.S_slice HX.out; subst ex))
  go_upto_region 8 with (first
    | (go_at_call 23; (with_reducible refine (impl_NewClient.calls k _ _ v5 r1 r2 r3 r4 r5 r6 r7 r8 r9 r10 _ ?s1 ?s2 AG.out).mono ?_); (case s1 => repeat (first | exact (Kd.S_reads' HX.out).2.2 | (with_reducible refine Kd.C_alloc ?_ _) | (with_reducible refine Kd.C_drewN ?_ _) | (with_reducible refine Kd.C_drew ?_))); (case s2 => exact (Kd.S_reads' HX.out).2.1); rintro e w8 ⟨z0, z1, rfl, hs, hr, hb⟩; have HG0 := Aside0.mk (Kd.S_lower (Kd.S_mono (ok' := fun k_ => w6.heap.size ≤ k_) (Kd.S_bound hs) (fun k_ hk => Nat.le_trans (below_size (w := w6) bU) hk.2.1)) (below_size (w := w6) bU)); have HG1 := Aside0.mk (Kd.R_lower (Kd.R_mono (ok' := fun k_ => w6.heap.size ≤ k_) (Kd.R_bound hr) (fun k_ hk => Nat.le_trans (below_size (w := w6) bU) hk.2.1)) (below_size (w := w6) bU)); have nHB := Aside0.mk (below_step (w := w) bW hb); have nHBW := Aside0.mk (below_step (w := w3) bV hb); have nHBX := Aside0.mk (below_step (w := w6) bU hb); have nHX := Aside0.mk (Kd.S_below (pS HX) hb); have nBK4 := Aside0.mk (kb BK4 hb); clear HB; have HB := nHB; clear nHB; clear HBW; have HBW := nHBW; clear nHBW; clear HBX; have HBX := nHBX; clear nHBX; clear HX; have HX := nHX; clear nHX; clear BK4; have BK4 := nBK4; clear nBK4; clear hs hr hb; obtain ⟨AG0, cG0, ez0⟩ := Kd.S_slice HG0.out; subst ez0; obtain ⟨AG1, cG1, ez1⟩ := Kd.R_slice HG1.out; subst ez1))
  have G46 := Aside0.mk (show w3.heap.size < w6.heap.size from L46.out)
  have G7 := Aside0.mk (show w6.heap.size ≤ w8.heap.size from below_size HBX.out)
  obtain ⟨w9, hw9⟩ : ∃ w_ : World, w_ = w8.alloc (.cells #[.slice AG0 r1.length cG0, .int .i64 r2, .int .i64 r3, .int .i64 r4, .int .i64 r5, .int .i64 r6, .int .i64 r7, .int .i64 r8, .slice AG1 r9.length cG1] 49 (0, 0)) := ⟨_, rfl⟩
  rw [← hw9]
  have nBK7 : Aside0 (w9.heap[w8.heap.size]? = some (.cells #[.slice AG0 r1.length cG0, .int .i64 r2, .int .i64 r3, .int .i64 r4, .int .i64 r5, .int .i64 r6, .int .i64 r7, .int .i64 r8, .slice AG1 r9.length cG1] 49 (0, 0))) := Aside0.mk (by rw [hw9]; exact heap_alloc_new w8 _)
  have nHB : Aside0 (Below w.heap.size w w9) := Aside0.mk (by rw [hw9]; exact below_alloc HB.out _)
  have nHBW : Aside0 (Below w3.heap.size w3 w9) := Aside0.mk (by rw [hw9]; exact below_alloc HBW.out _)
  have nHX : Aside0 (Kd.S k94 94 w9 w3.heap.size (fun k_ => w3.heap.size < k_ ∧ k_ < w6.heap.size) (.slice aX v5.length cX) v5) := Aside0.mk (by rw [hw9]; exact Kd.S_alloc HX.out _)
  have nBK4 : Aside0 (w9.heap[w3.heap.size]? = some (.cells #[.slice AW0 rW1.length cW0, .int .i64 rW2, .int .i64 rW3, .int .i64 rW4, .int .i64 rW5, .int .i64 rW6, .int .i64 rW7, .int .i64 rW8, .slice AW1 rW9.length cW1] 49 (0, 0))) := Aside0.mk (by rw [hw9]; exact blk_alloc BK4.out _)
  have nHG0 : Aside0 (Kd.S k94 94 w9 w6.heap.size (fun k_ => w6.heap.size ≤ k_ ∧ k_ ≠ w8.heap.size) (.slice AG0 r1.length cG0) r1) := Aside0.mk (by rw [hw9]; exact Kd.S_alloc (Kd.S_elderB HG0.out w8.heap.size (Nat.le_refl _)) _)
  have nHG1 : Aside0 (Kd.R k74 74 w9 w6.heap.size (fun k_ => w6.heap.size ≤ k_ ∧ k_ ≠ w8.heap.size) (.slice AG1 r9.length cG1) r9) := Aside0.mk (by rw [hw9]; exact Kd.R_alloc (Kd.R_elderB HG1.out w8.heap.size (Nat.le_refl _)) _)
  (try clear BK7); have BK7 := nBK7; clear nBK7; (try clear HB); have HB := nHB; clear nHB; (try clear HBW); have HBW := nHBW; clear nHBW; (try clear HX); have HX := nHX; clear nHX; (try clear BK4); have BK4 := nBK4; clear nBK4; (try clear HG0); have HG0 := nHG0; clear nHG0; (try clear HG1); have HG1 := nHG1; clear nHG1
  clear hw9
  clear HBX
  obtain ⟨hBK4a0, hBK4a1, hBK4a2, hBK4a3, hBK4a4, hBK4a5, hBK4a6, hBK4a7, hBK4a8⟩ := cz9 BK4; obtain ⟨hBK4f0, hBK4f1, hBK4f2, hBK4f3, hBK4f4, hBK4f5, hBK4f6, hBK4f7, hBK4f8⟩ := fz9 BK4; obtain ⟨hBK7a0, hBK7a1, hBK7a2, hBK7a3, hBK7a4, hBK7a5, hBK7a6, hBK7a7, hBK7a8⟩ := cz9 BK7; obtain ⟨hBK7f0, hBK7f1, hBK7f2, hBK7f3, hBK7f4, hBK7f5, hBK7f6, hBK7f7, hBK7f8⟩ := fz9 BK7
  have c4b : (r10 != r10) = false := bne_self_eq_false _
  have c5b : (q != q) = false := bne_self_eq_false _
  go_upto_region 10 with (first
    | (go_at_call 24; (with_reducible refine (laws_eqClient.calls k _ _ r1 r2 r3 r4 r5 r6 r7 r8 _ _ r9 _ _ rW1 rW2 rW3 rW4 rW5 rW6 rW7 rW8 _ _ rW9 true _ ?s1 ?s2 ?s3 ?s4 ?s5 ?s6 ?s7 ?s8 AE.out).mono ?_); (case s1 => repeat (first | exact (Kd.S_reads' HG0.out).2.2 | (with_reducible refine Kd.C_alloc ?_ _) | (with_reducible refine Kd.C_drewN ?_ _) | (with_reducible refine Kd.C_drew ?_))); (case s2 => exact (Kd.S_reads' HG0.out).2.1); (case s3 => repeat (first | exact (Kd.R_reads' HG1.out).2.2 | (with_reducible refine Kd.C_alloc ?_ _) | (with_reducible refine Kd.C_drewN ?_ _) | (with_reducible refine Kd.C_drew ?_))); (case s4 => exact (Kd.R_reads' HG1.out).2.1); (case s5 => exact Kd.C_below CW0.out bV); (case s6 => exact LW0.out); (case s7 => exact Kd.C_below CW1.out bV); (case s8 => exact LW1.out); rintro e w10 ⟨rfl, hb⟩; have nHB := Aside0.mk (below_step (w := w) bW hb); have nHBW := Aside0.mk (below_step (w := w3) bV hb); have nHX := Aside0.mk (Kd.S_below (pS HX) hb); have nBK4 := Aside0.mk (kb BK4 hb); have nBK7 := Aside0.mk (kb BK7 hb); have nHG0 := Aside0.mk (Kd.S_below (by (with_reducible repeat (first | apply Kd.S_alloc | apply Kd.S_drewN | apply Kd.S_drew)); exact HG0.out) hb); have nHG1 := Aside0.mk (Kd.R_below (by (with_reducible repeat (first | apply Kd.R_alloc | apply Kd.R_drewN | apply Kd.R_drew)); exact HG1.out) hb); clear HB; have HB := nHB; clear nHB; clear HBW; have HBW := nHBW; clear nHBW; clear HX; have HX := nHX; clear nHX; clear BK4; have BK4 := nBK4; clear nBK4; clear BK7; have BK7 := nBK7; clear nBK7; clear HG0; have HG0 := nHG0; clear nHG0; clear HG1; have HG1 := nHG1; clear nHG1; clear hBK4a0 hBK4a1 hBK4a2 hBK4a3 hBK4a4 hBK4a5 hBK4a6 hBK4a7 hBK4a8 hBK4f0 hBK4f1 hBK4f2 hBK4f3 hBK4f4 hBK4f5 hBK4f6 hBK4f7 hBK4f8; clear hBK7a0 hBK7a1 hBK7a2 hBK7a3 hBK7a4 hBK7a5 hBK7a6 hBK7a7 hBK7a8 hBK7f0 hBK7f1 hBK7f2 hBK7f3 hBK7f4 hBK7f5 hBK7f6 hBK7f7 hBK7f8; obtain ⟨hBK4a0, hBK4a1, hBK4a2, hBK4a3, hBK4a4, hBK4a5, hBK4a6, hBK4a7, hBK4a8⟩ := cz9 BK4; obtain ⟨hBK4f0, hBK4f1, hBK4f2, hBK4f3, hBK4f4, hBK4f5, hBK4f6, hBK4f7, hBK4f8⟩ := fz9 BK4; obtain ⟨hBK7a0, hBK7a1, hBK7a2, hBK7a3, hBK7a4, hBK7a5, hBK7a6, hBK7a7, hBK7a8⟩ := cz9 BK7; obtain ⟨hBK7f0, hBK7f1, hBK7f2, hBK7f3, hBK7f4, hBK7f5, hBK7f6, hBK7f7, hBK7f8⟩ := fz9 BK7; clear hb))
  go_upto_region 12 with (first
    | (go_at_call 22; (with_reducible refine (laws_toWishS.calls k A0 c0 l0 v5 _ ?s1 ?s2 AV.out).mono ?_); (case s1 => exact cB HR0); (case s2 => exact HC0.out); rintro e w11 ⟨v11, rfl, ho, hb⟩; have nHB := Aside0.mk (below_step (w := w) bW hb); have nHBW := Aside0.mk (below_step (w := w3) bV hb); have nHX := Aside0.mk (Kd.S_below (pS HX) hb); have nBK4 := Aside0.mk (kb BK4 hb); have nBK7 := Aside0.mk (kb BK7 hb); have nHG0 := Aside0.mk (Kd.S_below (by (with_reducible repeat (first | apply Kd.S_alloc | apply Kd.S_drewN | apply Kd.S_drew)); exact HG0.out) hb); have nHG1 := Aside0.mk (Kd.R_below (by (with_reducible repeat (first | apply Kd.R_alloc | apply Kd.R_drewN | apply Kd.R_drew)); exact HG1.out) hb); clear HB; have HB := nHB; clear nHB; clear HBW; have HBW := nHBW; clear nHBW; clear HX; have HX := nHX; clear nHX; clear BK4; have BK4 := nBK4; clear nBK4; clear BK7; have BK7 := nBK7; clear nBK7; clear HG0; have HG0 := nHG0; clear nHG0; clear HG1; have HG1 := nHG1; clear nHG1; have HT := Aside0.mk ho; clear ho hb; obtain ⟨aT, cT, et⟩ := Kd.S_slice HT.out; subst et)
    | (go_at_call 25; (with_reducible refine (laws_eqWishS.calls k _ _ v5 _ _ v5 true _ ?s1 ?s2 ?s3 ?s4 AX.out).mono ?_); (case s1 => repeat (first | exact (Kd.S_reads' HX.out).2.2 | (with_reducible refine Kd.C_alloc ?_ _) | (with_reducible refine Kd.C_drewN ?_ _) | (with_reducible refine Kd.C_drew ?_))); (case s2 => exact (Kd.S_reads' HX.out).2.1); (case s3 => repeat (first | exact (Kd.S_reads' HT.out).2.2 | (with_reducible refine Kd.C_alloc ?_ _) | (with_reducible refine Kd.C_drewN ?_ _) | (with_reducible refine Kd.C_drew ?_))); (case s4 => exact (Kd.S_reads' HT.out).2.1); rintro e w12 ⟨rfl, hb⟩; have nHB := Aside0.mk (below_step (w := w) bW hb); have nHBW := Aside0.mk (below_step (w := w3) bV hb); have nHX := Aside0.mk (Kd.S_below (pS HX) hb); have nBK4 := Aside0.mk (kb BK4 hb); have nBK7 := Aside0.mk (kb BK7 hb); have nHG0 := Aside0.mk (Kd.S_below (by (with_reducible repeat (first | apply Kd.S_alloc | apply Kd.S_drewN | apply Kd.S_drew)); exact HG0.out) hb); have nHG1 := Aside0.mk (Kd.R_below (by (with_reducible repeat (first | apply Kd.R_alloc | apply Kd.R_drewN | apply Kd.R_drew)); exact HG1.out) hb); clear HB; have HB := nHB; clear nHB; clear HBW; have HBW := nHBW; clear nHBW; clear HX; have HX := nHX; clear nHX; clear BK4; have BK4 := nBK4; clear nBK4; clear BK7; have BK7 := nBK7; clear nBK7; clear HG0; have HG0 := nHG0; clear nHG0; clear HG1; have HG1 := nHG1; clear nHG1; clear hb HT))
  go_upto_region 14 with (first
    | (go_at_call 26; (with_reducible refine (laws_markWishS.calls k (fun k_ => w3.heap.size < k_ ∧ k_ < w6.heap.size) _ v5 1 mk1 mk2 w3 _ ?s1 ?s2 AM.out).mono ?_); (case s1 => exact bV); (case s2 => exact (pS HX)); rintro e w13 ⟨rfl, hr, hb, hk⟩; have nBK4 := Aside0.mk (blk_kept (kB BK4) hk (fun hs => Nat.lt_irrefl _ hs.1)); have nBK7 := Aside0.mk (blk_kept (kB BK7) hk (fun hs => Nat.lt_irrefl _ (Nat.lt_of_le_of_lt G7.out hs.2))); have nHG0 := Aside0.mk (Kd.S_kept (by (with_reducible repeat (first | apply Kd.S_alloc | apply Kd.S_drewN | apply Kd.S_drew)); exact HG0.out) hk (fun k_ (hq : w6.heap.size ≤ k_ ∧ k_ ≠ w8.heap.size) hs => Nat.lt_irrefl _ (Nat.lt_of_le_of_lt hq.1 hs.2))); have nHG1 := Aside0.mk (Kd.R_kept (by (with_reducible repeat (first | apply Kd.R_alloc | apply Kd.R_drewN | apply Kd.R_drew)); exact HG1.out) hk (fun k_ (hq : w6.heap.size ≤ k_ ∧ k_ ≠ w8.heap.size) hs => Nat.lt_irrefl _ (Nat.lt_of_le_of_lt hq.1 hs.2))); have nHB := Aside0.mk (below_step (w := w) HB3.out hb); have nHBW := Aside0.mk hb; clear HX hr hb hk BK4 BK7 HG0 HG1 HB HBW; have BK4 := nBK4; have BK7 := nBK7; have HG0 := nHG0; have HG1 := nHG1; have HB := nHB; have HBW := nHBW; clear nBK4 nBK7 nHG0 nHG1 nHB nHBW; clear hBK4a0 hBK4a1 hBK4a2 hBK4a3 hBK4a4 hBK4a5 hBK4a6 hBK4a7 hBK4a8 hBK4f0 hBK4f1 hBK4f2 hBK4f3 hBK4f4 hBK4f5 hBK4f6 hBK4f7 hBK4f8; clear hBK7a0 hBK7a1 hBK7a2 hBK7a3 hBK7a4 hBK7a5 hBK7a6 hBK7a7 hBK7a8 hBK7f0 hBK7f1 hBK7f2 hBK7f3 hBK7f4 hBK7f5 hBK7f6 hBK7f7 hBK7f8; obtain ⟨hBK4a0, hBK4a1, hBK4a2, hBK4a3, hBK4a4, hBK4a5, hBK4a6, hBK4a7, hBK4a8⟩ := cz9 BK4; obtain ⟨hBK4f0, hBK4f1, hBK4f2, hBK4f3, hBK4f4, hBK4f5, hBK4f6, hBK4f7, hBK4f8⟩ := fz9 BK4; obtain ⟨hBK7a0, hBK7a1, hBK7a2, hBK7a3, hBK7a4, hBK7a5, hBK7a6, hBK7a7, hBK7a8⟩ := cz9 BK7; obtain ⟨hBK7f0, hBK7f1, hBK7f2, hBK7f3, hBK7f4, hBK7f5, hBK7f6, hBK7f7, hBK7f8⟩ := fz9 BK7))
  go_upto_region 16 with (first
    | (go_at_call 24; (with_reducible refine (laws_eqClient.calls k _ _ r1 r2 r3 r4 r5 r6 r7 r8 _ _ r9 _ _ rW1 rW2 rW3 rW4 rW5 rW6 rW7 rW8 _ _ rW9 true _ ?s1 ?s2 ?s3 ?s4 ?s5 ?s6 ?s7 ?s8 AE.out).mono ?_); (case s1 => repeat (first | exact (Kd.S_reads' HG0.out).2.2 | (with_reducible refine Kd.C_alloc ?_ _) | (with_reducible refine Kd.C_drewN ?_ _) | (with_reducible refine Kd.C_drew ?_))); (case s2 => exact (Kd.S_reads' HG0.out).2.1); (case s3 => repeat (first | exact (Kd.R_reads' HG1.out).2.2 | (with_reducible refine Kd.C_alloc ?_ _) | (with_reducible refine Kd.C_drewN ?_ _) | (with_reducible refine Kd.C_drew ?_))); (case s4 => exact (Kd.R_reads' HG1.out).2.1); (case s5 => exact Kd.C_below CW0.out bV); (case s6 => exact LW0.out); (case s7 => exact Kd.C_below CW1.out bV); (case s8 => exact LW1.out); rintro e w14 ⟨rfl, hb⟩; have nHB := Aside0.mk (below_step (w := w) bW hb); have nHBW := Aside0.mk (below_step (w := w3) bV hb); have nBK4 := Aside0.mk (kb BK4 hb); have nBK7 := Aside0.mk (kb BK7 hb); have nHG0 := Aside0.mk (Kd.S_below (by (with_reducible repeat (first | apply Kd.S_alloc | apply Kd.S_drewN | apply Kd.S_drew)); exact HG0.out) hb); have nHG1 := Aside0.mk (Kd.R_below (by (with_reducible repeat (first | apply Kd.R_alloc | apply Kd.R_drewN | apply Kd.R_drew)); exact HG1.out) hb); clear HB; have HB := nHB; clear nHB; clear HBW; have HBW := nHBW; clear nHBW; clear BK4; have BK4 := nBK4; clear nBK4; clear BK7; have BK7 := nBK7; clear nBK7; clear HG0; have HG0 := nHG0; clear nHG0; clear HG1; have HG1 := nHG1; clear nHG1; clear hBK4a0 hBK4a1 hBK4a2 hBK4a3 hBK4a4 hBK4a5 hBK4a6 hBK4a7 hBK4a8 hBK4f0 hBK4f1 hBK4f2 hBK4f3 hBK4f4 hBK4f5 hBK4f6 hBK4f7 hBK4f8; clear hBK7a0 hBK7a1 hBK7a2 hBK7a3 hBK7a4 hBK7a5 hBK7a6 hBK7a7 hBK7a8 hBK7f0 hBK7f1 hBK7f2 hBK7f3 hBK7f4 hBK7f5 hBK7f6 hBK7f7 hBK7f8; obtain ⟨hBK4a0, hBK4a1, hBK4a2, hBK4a3, hBK4a4, hBK4a5, hBK4a6, hBK4a7, hBK4a8⟩ := cz9 BK4; obtain ⟨hBK4f0, hBK4f1, hBK4f2, hBK4f3, hBK4f4, hBK4f5, hBK4f6, hBK4f7, hBK4f8⟩ := fz9 BK4; obtain ⟨hBK7a0, hBK7a1, hBK7a2, hBK7a3, hBK7a4, hBK7a5, hBK7a6, hBK7a7, hBK7a8⟩ := cz9 BK7; obtain ⟨hBK7f0, hBK7f1, hBK7f2, hBK7f3, hBK7f4, hBK7f5, hBK7f6, hBK7f7, hBK7f8⟩ := fz9 BK7; clear hb))
  go_upto_region 18 with (first
    | (go_at_call 27; (with_reducible refine (laws_markClient.calls k (fun k_ => w6.heap.size ≤ k_ ∧ k_ ≠ w8.heap.size) _ r1 r2 r3 r4 r5 r6 r7 r8 (fun k_ => w6.heap.size ≤ k_ ∧ k_ ≠ w8.heap.size) _ r9 1 q mb2 mb3 w3 _ ?s1 ?s2 ?s3 AMB.out).mono ?_); (case s1 => exact bV); (case s2 => exact Kd.S_lower (by (with_reducible repeat (first | apply Kd.S_alloc | apply Kd.S_drewN | apply Kd.S_drew)); exact HG0.out) LE6.out); (case s3 => exact Kd.R_lower (by (with_reducible repeat (first | apply Kd.R_alloc | apply Kd.R_drewN | apply Kd.R_drew)); exact HG1.out) LE6.out); rintro e w15 ⟨rfl, hs, hr, hb, hk⟩; have nBK4 := Aside0.mk (blk_kept (kB BK4) hk (fun h_ => by have := G46.out; rcases h_ with h_ | h_ <;> (have := h_.1; omega))); have nBK7 := Aside0.mk (blk_kept (kB BK7) hk (fun h_ => by rcases h_ with h_ | h_ <;> exact h_.2 rfl)); have nHB := Aside0.mk (below_step (w := w) HB3.out hb); have nHBW := Aside0.mk hb; clear HG0 HG1 BK4 BK7 HB HBW; have HG0 := Aside0.mk hs; have HG1 := Aside0.mk hr; have BK4 := nBK4; have BK7 := nBK7; have HB := nHB; have HBW := nHBW; clear hs hr hb hk nBK4 nBK7 nHB nHBW; clear hBK4a0 hBK4a1 hBK4a2 hBK4a3 hBK4a4 hBK4a5 hBK4a6 hBK4a7 hBK4a8 hBK4f0 hBK4f1 hBK4f2 hBK4f3 hBK4f4 hBK4f5 hBK4f6 hBK4f7 hBK4f8; clear hBK7a0 hBK7a1 hBK7a2 hBK7a3 hBK7a4 hBK7a5 hBK7a6 hBK7a7 hBK7a8 hBK7f0 hBK7f1 hBK7f2 hBK7f3 hBK7f4 hBK7f5 hBK7f6 hBK7f7 hBK7f8; obtain ⟨hBK4a0, hBK4a1, hBK4a2, hBK4a3, hBK4a4, hBK4a5, hBK4a6, hBK4a7, hBK4a8⟩ := cz9 BK4; obtain ⟨hBK4f0, hBK4f1, hBK4f2, hBK4f3, hBK4f4, hBK4f5, hBK4f6, hBK4f7, hBK4f8⟩ := fz9 BK4; obtain ⟨hBK7a0, hBK7a1, hBK7a2, hBK7a3, hBK7a4, hBK7a5, hBK7a6, hBK7a7, hBK7a8⟩ := cz9 BK7; obtain ⟨hBK7f0, hBK7f1, hBK7f2, hBK7f3, hBK7f4, hBK7f5, hBK7f6, hBK7f7, hBK7f8⟩ := fz9 BK7))
  have L2 := Aside0.mk (show r1.length = mb2.length from (Kd.S_reads' HG0.out).1)
  have L3 := Aside0.mk (show r9.length = mb3.length from (Kd.R_reads' HG1.out).1)
  go_upto_region 24 with (first
    | (go_at_call 28; (with_reducible refine (laws_FnExactNewClient.hb k _ _ _ mb2 r2 r3 r4 r5 r6 r7 r8 _ _ _ mb3 1 q _ ?s1 ?s2 L2.out ?s3 ?s4 L3.out AH.out).mono ?_); (case s1 => repeat (first | exact (Kd.S_reads' HG0.out).2.2 | (with_reducible refine Kd.C_alloc ?_ _) | (with_reducible refine Kd.C_drewN ?_ _) | (with_reducible refine Kd.C_drew ?_))); (case s2 => exact (Kd.S_reads' HG0.out).2.1); (case s3 => repeat (first | exact (Kd.R_reads' HG1.out).2.2 | (with_reducible refine Kd.C_alloc ?_ _) | (with_reducible refine Kd.C_drewN ?_ _) | (with_reducible refine Kd.C_drew ?_))); (case s4 => exact (Kd.R_reads' HG1.out).2.1); rintro e w16 ⟨rfl, hb⟩; have nHB := Aside0.mk (below_step (w := w) bW hb); have nHBW := Aside0.mk (below_step (w := w3) bV hb); have nBK4 := Aside0.mk (kb BK4 hb); have nBK7 := Aside0.mk (kb BK7 hb); have nHG0 := Aside0.mk (Kd.S_below (by (with_reducible repeat (first | apply Kd.S_alloc | apply Kd.S_drewN | apply Kd.S_drew)); exact HG0.out) hb); have nHG1 := Aside0.mk (Kd.R_below (by (with_reducible repeat (first | apply Kd.R_alloc | apply Kd.R_drewN | apply Kd.R_drew)); exact HG1.out) hb); clear HB; have HB := nHB; clear nHB; clear HBW; have HBW := nHBW; clear nHBW; clear BK4; have BK4 := nBK4; clear nBK4; clear BK7; have BK7 := nBK7; clear nBK7; clear HG0; have HG0 := nHG0; clear nHG0; clear HG1; have HG1 := nHG1; clear nHG1; clear hBK4a0 hBK4a1 hBK4a2 hBK4a3 hBK4a4 hBK4a5 hBK4a6 hBK4a7 hBK4a8 hBK4f0 hBK4f1 hBK4f2 hBK4f3 hBK4f4 hBK4f5 hBK4f6 hBK4f7 hBK4f8; clear hBK7a0 hBK7a1 hBK7a2 hBK7a3 hBK7a4 hBK7a5 hBK7a6 hBK7a7 hBK7a8 hBK7f0 hBK7f1 hBK7f2 hBK7f3 hBK7f4 hBK7f5 hBK7f6 hBK7f7 hBK7f8; obtain ⟨hBK4a0, hBK4a1, hBK4a2, hBK4a3, hBK4a4, hBK4a5, hBK4a6, hBK4a7, hBK4a8⟩ := cz9 BK4; obtain ⟨hBK4f0, hBK4f1, hBK4f2, hBK4f3, hBK4f4, hBK4f5, hBK4f6, hBK4f7, hBK4f8⟩ := fz9 BK4; obtain ⟨hBK7a0, hBK7a1, hBK7a2, hBK7a3, hBK7a4, hBK7a5, hBK7a6, hBK7a7, hBK7a8⟩ := cz9 BK7; obtain ⟨hBK7f0, hBK7f1, hBK7f2, hBK7f3, hBK7f4, hBK7f5, hBK7f6, hBK7f7, hBK7f8⟩ := fz9 BK7; clear hb))
  go_upto_region 25 with (first
    | (go_at_call 22; (with_reducible refine (laws_toWishS.calls k A0 c0 l0 v5 _ ?s1 ?s2 AV.out).mono ?_); (case s1 => exact cB HR0); (case s2 => exact HC0.out); rintro e w17 ⟨v17, rfl, ho, hb⟩; have nHB := Aside0.mk (below_step (w := w) bW hb); have nHBW := Aside0.mk (below_step (w := w3) bV hb); have nBK4 := Aside0.mk (kb BK4 hb); have nBK7 := Aside0.mk (kb BK7 hb); have nHG0 := Aside0.mk (Kd.S_below (by (with_reducible repeat (first | apply Kd.S_alloc | apply Kd.S_drewN | apply Kd.S_drew)); exact HG0.out) hb); have nHG1 := Aside0.mk (Kd.R_below (by (with_reducible repeat (first | apply Kd.R_alloc | apply Kd.R_drewN | apply Kd.R_drew)); exact HG1.out) hb); clear HB; have HB := nHB; clear nHB; clear HBW; have HBW := nHBW; clear nHBW; clear BK4; have BK4 := nBK4; clear nBK4; clear BK7; have BK7 := nBK7; clear nBK7; clear HG0; have HG0 := nHG0; clear nHG0; clear HG1; have HG1 := nHG1; clear nHG1; clear hBK4a0 hBK4a1 hBK4a2 hBK4a3 hBK4a4 hBK4a5 hBK4a6 hBK4a7 hBK4a8 hBK4f0 hBK4f1 hBK4f2 hBK4f3 hBK4f4 hBK4f5 hBK4f6 hBK4f7 hBK4f8; clear hBK7a0 hBK7a1 hBK7a2 hBK7a3 hBK7a4 hBK7a5 hBK7a6 hBK7a7 hBK7a8 hBK7f0 hBK7f1 hBK7f2 hBK7f3 hBK7f4 hBK7f5 hBK7f6 hBK7f7 hBK7f8; obtain ⟨hBK4a0, hBK4a1, hBK4a2, hBK4a3, hBK4a4, hBK4a5, hBK4a6, hBK4a7, hBK4a8⟩ := cz9 BK4; obtain ⟨hBK4f0, hBK4f1, hBK4f2, hBK4f3, hBK4f4, hBK4f5, hBK4f6, hBK4f7, hBK4f8⟩ := fz9 BK4; obtain ⟨hBK7a0, hBK7a1, hBK7a2, hBK7a3, hBK7a4, hBK7a5, hBK7a6, hBK7a7, hBK7a8⟩ := cz9 BK7; obtain ⟨hBK7f0, hBK7f1, hBK7f2, hBK7f3, hBK7f4, hBK7f5, hBK7f6, hBK7f7, hBK7f8⟩ := fz9 BK7; have HT := Aside0.mk ho; clear ho hb; obtain ⟨aT, cT, et⟩ := Kd.S_slice HT.out; subst et)
    | (go_at_call 23; (with_reducible refine (impl_NewClient.calls k _ _ v5 r1 r2 r3 r4 r5 r6 r7 r8 r9 r10 _ ?s1 ?s2 AG.out).mono ?_); (case s1 => repeat (first | exact (Kd.S_reads' HT.out).2.2 | (with_reducible refine Kd.C_alloc ?_ _) | (with_reducible refine Kd.C_drewN ?_ _) | (with_reducible refine Kd.C_drew ?_))); (case s2 => exact (Kd.S_reads' HT.out).2.1); rintro e w18 ⟨z0, z1, rfl, hs, hr, hb⟩; have HH0 := Aside0.mk hs; have HH1 := Aside0.mk hr; have nHB := Aside0.mk (below_step (w := w) bW hb); have nHBW := Aside0.mk (below_step (w := w3) bV hb); have nBK4 := Aside0.mk (kb BK4 hb); have nBK7 := Aside0.mk (kb BK7 hb); have nHG0 := Aside0.mk (Kd.S_below (by (with_reducible repeat (first | apply Kd.S_alloc | apply Kd.S_drewN | apply Kd.S_drew)); exact HG0.out) hb); have nHG1 := Aside0.mk (Kd.R_below (by (with_reducible repeat (first | apply Kd.R_alloc | apply Kd.R_drewN | apply Kd.R_drew)); exact HG1.out) hb); clear HB; have HB := nHB; clear nHB; clear HBW; have HBW := nHBW; clear nHBW; clear BK4; have BK4 := nBK4; clear nBK4; clear BK7; have BK7 := nBK7; clear nBK7; clear HG0; have HG0 := nHG0; clear nHG0; clear HG1; have HG1 := nHG1; clear nHG1; clear hBK4a0 hBK4a1 hBK4a2 hBK4a3 hBK4a4 hBK4a5 hBK4a6 hBK4a7 hBK4a8 hBK4f0 hBK4f1 hBK4f2 hBK4f3 hBK4f4 hBK4f5 hBK4f6 hBK4f7 hBK4f8; clear hBK7a0 hBK7a1 hBK7a2 hBK7a3 hBK7a4 hBK7a5 hBK7a6 hBK7a7 hBK7a8 hBK7f0 hBK7f1 hBK7f2 hBK7f3 hBK7f4 hBK7f5 hBK7f6 hBK7f7 hBK7f8; obtain ⟨hBK4a0, hBK4a1, hBK4a2, hBK4a3, hBK4a4, hBK4a5, hBK4a6, hBK4a7, hBK4a8⟩ := cz9 BK4; obtain ⟨hBK4f0, hBK4f1, hBK4f2, hBK4f3, hBK4f4, hBK4f5, hBK4f6, hBK4f7, hBK4f8⟩ := fz9 BK4; obtain ⟨hBK7a0, hBK7a1, hBK7a2, hBK7a3, hBK7a4, hBK7a5, hBK7a6, hBK7a7, hBK7a8⟩ := cz9 BK7; obtain ⟨hBK7f0, hBK7f1, hBK7f2, hBK7f3, hBK7f4, hBK7f5, hBK7f6, hBK7f7, hBK7f8⟩ := fz9 BK7; clear hs hr hb HT; obtain ⟨AH0, cH0, ez0⟩ := Kd.S_slice HH0.out; subst ez0; obtain ⟨AH1, cH1, ez1⟩ := Kd.R_slice HH1.out; subst ez1))
  obtain ⟨w19, hw19⟩ : ∃ w_ : World, w_ = w18.alloc (.cells #[.slice AH0 r1.length cH0, .int .i64 r2, .int .i64 r3, .int .i64 r4, .int .i64 r5, .int .i64 r6, .int .i64 r7, .int .i64 r8, .slice AH1 r9.length cH1] 49 (0, 0)) := ⟨_, rfl⟩
  rw [← hw19]
  have nBK12 : Aside0 (w19.heap[w18.heap.size]? = some (.cells #[.slice AH0 r1.length cH0, .int .i64 r2, .int .i64 r3, .int .i64 r4, .int .i64 r5, .int .i64 r6, .int .i64 r7, .int .i64 r8, .slice AH1 r9.length cH1] 49 (0, 0))) := Aside0.mk (by rw [hw19]; exact heap_alloc_new w18 _)
  have nHB : Aside0 (Below w.heap.size w w19) := Aside0.mk (by rw [hw19]; exact below_alloc HB.out _)
  have nHBW : Aside0 (Below w3.heap.size w3 w19) := Aside0.mk (by rw [hw19]; exact below_alloc HBW.out _)
  have nBK4 : Aside0 (w19.heap[w3.heap.size]? = some (.cells #[.slice AW0 rW1.length cW0, .int .i64 rW2, .int .i64 rW3, .int .i64 rW4, .int .i64 rW5, .int .i64 rW6, .int .i64 rW7, .int .i64 rW8, .slice AW1 rW9.length cW1] 49 (0, 0))) := Aside0.mk (by rw [hw19]; exact blk_alloc BK4.out _)
  have nBK7 : Aside0 (w19.heap[w8.heap.size]? = some (.cells #[.slice AG0 r1.length cG0, .int .i64 r2, .int .i64 r3, .int .i64 r4, .int .i64 r5, .int .i64 r6, .int .i64 r7, .int .i64 r8, .slice AG1 r9.length cG1] 49 (0, 0))) := Aside0.mk (by rw [hw19]; exact blk_alloc BK7.out _)
  have nHG0 : Aside0 (Kd.S k94 94 w19 w3.heap.size (fun k_ => w6.heap.size ≤ k_ ∧ k_ ≠ w8.heap.size) (.slice AG0 r1.length cG0) mb2) := Aside0.mk (by rw [hw19]; exact Kd.S_alloc HG0.out _)
  have nHG1 : Aside0 (Kd.R k74 74 w19 w3.heap.size (fun k_ => w6.heap.size ≤ k_ ∧ k_ ≠ w8.heap.size) (.slice AG1 r9.length cG1) mb3) := Aside0.mk (by rw [hw19]; exact Kd.R_alloc HG1.out _)
  have nHH0 : Aside0 (Kd.S k94 94 w19 w17.heap.size (fun _ => True) (.slice AH0 r1.length cH0) r1) := Aside0.mk (by rw [hw19]; exact Kd.S_alloc HH0.out _)
  have nHH1 : Aside0 (Kd.R k74 74 w19 w17.heap.size (fun _ => True) (.slice AH1 r9.length cH1) r9) := Aside0.mk (by rw [hw19]; exact Kd.R_alloc HH1.out _)
  (try clear BK12); have BK12 := nBK12; clear nBK12; (try clear HB); have HB := nHB; clear nHB; (try clear HBW); have HBW := nHBW; clear nHBW; (try clear BK4); have BK4 := nBK4; clear nBK4; (try clear BK7); have BK7 := nBK7; clear nBK7; (try clear HG0); have HG0 := nHG0; clear nHG0; (try clear HG1); have HG1 := nHG1; clear nHG1; (try clear HH0); have HH0 := nHH0; clear nHH0; (try clear HH1); have HH1 := nHH1; clear nHH1
  clear hw19
  clear hBK4a0 hBK4a1 hBK4a2 hBK4a3 hBK4a4 hBK4a5 hBK4a6 hBK4a7 hBK4a8 hBK4f0 hBK4f1 hBK4f2 hBK4f3 hBK4f4 hBK4f5 hBK4f6 hBK4f7 hBK4f8; clear hBK7a0 hBK7a1 hBK7a2 hBK7a3 hBK7a4 hBK7a5 hBK7a6 hBK7a7 hBK7a8 hBK7f0 hBK7f1 hBK7f2 hBK7f3 hBK7f4 hBK7f5 hBK7f6 hBK7f7 hBK7f8
  obtain ⟨hBK4a0, hBK4a1, hBK4a2, hBK4a3, hBK4a4, hBK4a5, hBK4a6, hBK4a7, hBK4a8⟩ := cz9 BK4; obtain ⟨hBK4f0, hBK4f1, hBK4f2, hBK4f3, hBK4f4, hBK4f5, hBK4f6, hBK4f7, hBK4f8⟩ := fz9 BK4; obtain ⟨hBK7a0, hBK7a1, hBK7a2, hBK7a3, hBK7a4, hBK7a5, hBK7a6, hBK7a7, hBK7a8⟩ := cz9 BK7; obtain ⟨hBK7f0, hBK7f1, hBK7f2, hBK7f3, hBK7f4, hBK7f5, hBK7f6, hBK7f7, hBK7f8⟩ := fz9 BK7; obtain ⟨hBK12a0, hBK12a1, hBK12a2, hBK12a3, hBK12a4, hBK12a5, hBK12a6, hBK12a7, hBK12a8⟩ := cz9 BK12; obtain ⟨hBK12f0, hBK12f1, hBK12f2, hBK12f3, hBK12f4, hBK12f5, hBK12f6, hBK12f7, hBK12f8⟩ := fz9 BK12
  go_upto_region 27 with (first
    | (go_at_call 24; (with_reducible refine (laws_eqClient.calls k _ _ r1 r2 r3 r4 r5 r6 r7 r8 _ _ r9 _ _ rW1 rW2 rW3 rW4 rW5 rW6 rW7 rW8 _ _ rW9 true _ ?s1 ?s2 ?s3 ?s4 ?s5 ?s6 ?s7 ?s8 AE.out).mono ?_); (case s1 => repeat (first | exact (Kd.S_reads' HH0.out).2.2 | (with_reducible refine Kd.C_alloc ?_ _) | (with_reducible refine Kd.C_drewN ?_ _) | (with_reducible refine Kd.C_drew ?_))); (case s2 => exact (Kd.S_reads' HH0.out).2.1); (case s3 => repeat (first | exact (Kd.R_reads' HH1.out).2.2 | (with_reducible refine Kd.C_alloc ?_ _) | (with_reducible refine Kd.C_drewN ?_ _) | (with_reducible refine Kd.C_drew ?_))); (case s4 => exact (Kd.R_reads' HH1.out).2.1); (case s5 => exact Kd.C_below CW0.out bV); (case s6 => exact LW0.out); (case s7 => exact Kd.C_below CW1.out bV); (case s8 => exact LW1.out); rintro e w20 ⟨rfl, hb⟩; have nHB := Aside0.mk (below_step (w := w) bW hb); have nBK7 := Aside0.mk (kb BK7 hb); have nHG0 := Aside0.mk (Kd.S_below (by (with_reducible repeat (first | apply Kd.S_alloc | apply Kd.S_drewN | apply Kd.S_drew)); exact HG0.out) hb); have nHG1 := Aside0.mk (Kd.R_below (by (with_reducible repeat (first | apply Kd.R_alloc | apply Kd.R_drewN | apply Kd.R_drew)); exact HG1.out) hb); clear HB; have HB := nHB; clear nHB; clear BK7; have BK7 := nBK7; clear nBK7; clear HG0; have HG0 := nHG0; clear nHG0; clear HG1; have HG1 := nHG1; clear nHG1; clear hBK4a0 hBK4a1 hBK4a2 hBK4a3 hBK4a4 hBK4a5 hBK4a6 hBK4a7 hBK4a8 hBK4f0 hBK4f1 hBK4f2 hBK4f3 hBK4f4 hBK4f5 hBK4f6 hBK4f7 hBK4f8; clear hBK7a0 hBK7a1 hBK7a2 hBK7a3 hBK7a4 hBK7a5 hBK7a6 hBK7a7 hBK7a8 hBK7f0 hBK7f1 hBK7f2 hBK7f3 hBK7f4 hBK7f5 hBK7f6 hBK7f7 hBK7f8; clear hBK12a0 hBK12a1 hBK12a2 hBK12a3 hBK12a4 hBK12a5 hBK12a6 hBK12a7 hBK12a8 hBK12f0 hBK12f1 hBK12f2 hBK12f3 hBK12f4 hBK12f5 hBK12f6 hBK12f7 hBK12f8; obtain ⟨hBK7a0, hBK7a1, hBK7a2, hBK7a3, hBK7a4, hBK7a5, hBK7a6, hBK7a7, hBK7a8⟩ := cz9 BK7; obtain ⟨hBK7f0, hBK7f1, hBK7f2, hBK7f3, hBK7f4, hBK7f5, hBK7f6, hBK7f7, hBK7f8⟩ := fz9 BK7; clear hb))
  go_wp2_with (first
    | (go_at_call 28; (with_reducible refine (laws_FnExactNewClient.hb k _ _ _ mb2 r2 r3 r4 r5 r6 r7 r8 _ _ _ mb3 1 q _ ?s1 ?s2 L2.out ?s3 ?s4 L3.out AH.out).mono ?_); (case s1 => repeat (first | exact (Kd.S_reads' HG0.out).2.2 | (with_reducible refine Kd.C_alloc ?_ _) | (with_reducible refine Kd.C_drewN ?_ _) | (with_reducible refine Kd.C_drew ?_))); (case s2 => exact (Kd.S_reads' HG0.out).2.1); (case s3 => repeat (first | exact (Kd.R_reads' HG1.out).2.2 | (with_reducible refine Kd.C_alloc ?_ _) | (with_reducible refine Kd.C_drewN ?_ _) | (with_reducible refine Kd.C_drew ?_))); (case s4 => exact (Kd.R_reads' HG1.out).2.1); rintro e w21 ⟨rfl, hb⟩; have nHB := Aside0.mk (below_step (w := w) bW hb); clear HB; have HB := nHB; clear nHB; clear hb))
  go_ret
  exact ⟨rfl, bW⟩
end Go.Proofs.Ytjkddaokhmflbaa.Q
end

section
namespace Go.Proofs.Ytjkddaokhmflbaa.Q
open Go.RowKit Go.Proofs.YtjkddaokhmflbaaW.PrintWords Go.Proofs.YtjkddaokhmflbaaW.PrintLast Go.Proofs.YtjkddaokhmflbaaW.PrintMore
attribute [local go_sem] max2_int min2_int max_two min_two max_three min_three max_four min_four   -- for this text's walks alone
set_option linter.unusedVariables false
set_option linter.unusedSimpArgs false
attribute [local go_sem] bin_leq bin_gtr bin_geq
def Opens {α : Type} (P : Program) (d : Kd α) (t : TypeId) (G : α → Prop) : Prop :=
  P.cellsOf t = d.sz ∧ ∀ {H : Type} (enc : TypeId × Value → H) (w : World) (base : Nat) (spare : Nat → Bool) (held : Bool) (fuel : Nat) (cs : List Value) (x : DataW H × List MemPlace),
    DataW.trod enc P w base spare held fuel t cs = some x → ∃ v, d.K w v cs ∧ G v
theorem add_twice (a : Addr) (m i : Nat) : (a.add m).add i = a.add (m + i) := by
  unfold Addr.add
  by_cases h1 : m = 0 <;> by_cases h2 : i = 0 <;> simp_all [Nat.add_assoc]
theorem opens_int {P : Program} {t : TypeId} {k : IntKind} (ht : P.underlying t = some (.int k)) (hc : P.cellsOf t = 1) : Opens P (Kd.int k) t (fun n => (Lit.int k n).wf = true) := by
  refine ⟨hc, fun enc w base spare held fuel cs x h => ?_⟩
  cases fuel with
  | zero => simp [DataW.trod] at h
  | succ n =>
    unfold DataW.trod at h
    rw [ht] at h
    split at h <;> simp_all
    obtain ⟨⟨rfl, h1⟩, _⟩ := h
    exact ⟨_, rfl, h1⟩
theorem opens_bool {P : Program} {t : TypeId} (ht : P.underlying t = some .bool) (hc : P.cellsOf t = 1) : Opens P Kd.bool t (fun _ => True) := by
  refine ⟨hc, fun enc w base spare held fuel cs x h => ?_⟩
  cases fuel with
  | zero => simp [DataW.trod] at h
  | succ n =>
    unfold DataW.trod at h
    rw [ht] at h
    split at h <;> simp_all
    rename_i b
    cases b
    · exact .inl rfl
    · exact .inr rfl
theorem opens_string {P : Program} {t : TypeId} (ht : P.underlying t = some .string) (hc : P.cellsOf t = 1) : Opens P Kd.string t (fun s => s.size ≤ 9223372036854775807) := by
  refine ⟨hc, fun enc w base spare held fuel cs x h => ?_⟩
  cases fuel with
  | zero => simp [DataW.trod] at h
  | succ n =>
    unfold DataW.trod at h
    rw [ht] at h
    split at h <;> simp_all
    exact ⟨_, rfl, h.1⟩
theorem list_of {α : Type} {Q : Nat → α → Prop} : ∀ n, (∀ i, i < n → ∃ v, Q i v) → ∃ l : List α, l.length = n ∧ ∀ i v, l[i]? = some v → Q i v
  | 0, _ => ⟨[], rfl, fun i v h => by simp at h⟩
  | n + 1, h => by
    obtain ⟨l, hl, hq⟩ := list_of n (fun i hi => h i (by omega))
    obtain ⟨v, hv⟩ := h n (by omega)
    refine ⟨l ++ [v], by simp [hl], fun i u hu => ?_⟩
    by_cases hi : i < l.length
    · rw [List.getElem?_append_left hi] at hu
      exact hq i u hu
    · have hi2 : i = l.length := by
        have := (List.getElem?_eq_some_iff.1 hu).1
        rw [List.length_append, List.length_singleton] at this
        omega
      subst hi2
      have hu' : v = u := by simpa using hu
      subst hu'
      rw [hl]
      exact hv
theorem opens_slice {α : Type} {P : Program} {d : Kd α} {t e : TypeId} {G : α → Prop} (ht : P.underlying t = some (.slice e)) (hc : P.cellsOf t = 1) (O : Opens P d e G) :
    Opens P (Kd.slice e d) t (fun l => l.length ≤ 9223372036854775807 ∧ ∀ x, x ∈ l → G x) := by
  refine ⟨hc, fun enc w base spare held fuel cs x h => ?_⟩
  rcases DataW.trod_slice ht h with ⟨rfl, _⟩ | ⟨a, len, cap, elems, rest, n, _, rfl, _, hb, hl, hm, hlen, hel, _, _⟩
  · exact ⟨[], ⟨none, 0, rfl, Nat.le_refl _, Kd.C_nil d w⟩, by simp, fun x hx => by simp at hx⟩
  · have each : ∀ i, i < len → ∃ v : α, (∃ c, c.length = d.sz ∧ d.K w v c ∧ ∀ j u, c[j]? = some u → w.cell? (a.add (i * d.sz + j)) = some u) ∧ G v := by
      intro i hi
      have h1 := hel i hi
      have h2 : elems[i]? = some (elems[i]'(by omega)) := List.getElem?_eq_getElem (by omega)
      rw [h2, Option.bind_eq_some_iff] at h1
      obtain ⟨c, hcc, htr⟩ := h1
      obtain ⟨v, hK, hG⟩ := O.2 enc w base spare held n c _ htr
      obtain ⟨_, hcl, hcells⟩ := World.cells?_some hcc
      refine ⟨v, ⟨c, d.K_len hK, hK, fun j u hu => ?_⟩, hG⟩
      have hj : j < c.length := (List.getElem?_eq_some_iff.1 hu).1
      have := hcells j (by omega)
      rw [hu, add_twice, O.1] at this
      exact this
    obtain ⟨l, hll, hq⟩ := list_of len each
    refine ⟨l, ⟨some a, cap, by rw [hll], by omega, hll ▸ ?_⟩, by unfold maxLen at hm; omega, fun x hx => ?_⟩
    · refine ⟨hll, by unfold maxLen at hm; omega, fun hp => ⟨a, rfl, fun j p hj => ?_⟩⟩
      obtain ⟨c, h1, h2, h3⟩ := (hq j p hj).1
      exact ⟨c, h1, h2, h3⟩
    · obtain ⟨i, hi, rfl⟩ := List.mem_iff_getElem.mp hx
      exact (hq i _ (List.getElem?_eq_getElem hi)).2
theorem open_row {α : Type} {P : Program} {d : Kd α} {t e : TypeId} {G : List α → Prop} (O : Opens P (Kd.slice e d) t G) {H : Type} {enc : TypeId × Value → H} {w : World} {base : Nat} {spare : Nat → Bool} {held : Bool} {a : Option Addr} {len cap : Nat} {x : DataW H} {ps : List MemPlace}
    (h : DataW.Trod enc P w base spare held t (.slice a len cap) x ps) : ∃ l, len = l.length ∧ l.length ≤ cap ∧ Kd.C d w a l.length l ∧ G l := by
  obtain ⟨fuel, hf⟩ := h
  obtain ⟨l, ⟨A, c, he, hl, hC⟩, hG⟩ := O.2 enc w base spare held fuel _ _ hf
  simp only [Value.cells] at he
  have he2 : Value.slice a len cap = Value.slice A l.length c := by simpa using he
  injection he2 with h1 h2 h3
  subst h1 h2 h3
  exact ⟨l, rfl, hl, hC, hG⟩
end Go.Proofs.Ytjkddaokhmflbaa.Q
end

section
namespace Go.Proofs.Ytjkddaokhmflbaa.Q
open Go.RowKit Go.Proofs.YtjkddaokhmflbaaW.PrintWords Go.Proofs.YtjkddaokhmflbaaW.PrintLast Go.Proofs.YtjkddaokhmflbaaW.PrintMore
attribute [local go_sem] max2_int min2_int max_two min_two max_three min_three max_four min_four   -- for this text's walks alone
set_option linter.unusedVariables false
set_option linter.unusedSimpArgs false
attribute [local go_sem] bin_leq bin_gtr bin_geq
def good125 (x : S125) : Prop := (fun s => s.size ≤ 9223372036854775807) x.f0 ∧ (fun n => (Lit.int .i64 n).wf = true) x.f1 ∧ (fun _ => True) x.f2
set_option maxRecDepth 100000 in
theorem opens_125 : Opens Try.prog k125 125 good125 := by
  refine ⟨by kernel_rfl, fun enc w base spare held fuel cs x h => ?_⟩
  obtain ⟨xs, n, _, _, hcl, hxl, hf⟩ := DataW.trod_struct Try.underlying125 h
  have hcl2 : cs.length = 3 := hcl.trans (by kernel_rfl)
  obtain ⟨c0, c1, c2, rfl⟩ : ∃ c0 c1 c2, cs = [c0, c1, c2] := by
    match cs, hcl2 with
    | [c0, c1, c2], _ => exact ⟨c0, c1, c2, rfl⟩
  have h0 := hf 0 _ rfl
  rw [List.getElem?_eq_getElem (show 0 < xs.length by rw [hxl]; decide)] at h0
  obtain ⟨v0, K0, G0⟩ := (opens_string Try.underlying9 (by kernel_rfl)).2 enc w base spare held n [c0] _ ((show DataW.trod enc Try.prog w base spare held n 9 [c0] = _ from (by first | exact h0 | (rw [show Try.prog.cellsOf 9 = 1 by kernel_rfl] at h0; exact h0))))
  have h1 := hf 1 _ rfl
  rw [List.getElem?_eq_getElem (show 1 < xs.length by rw [hxl]; decide)] at h1
  obtain ⟨v1, K1, G1⟩ := (opens_int (k := .i64) Try.underlying3 (by kernel_rfl)).2 enc w base spare held n [c1] _ ((show DataW.trod enc Try.prog w base spare held n 3 [c1] = _ from (by first | exact h1 | (rw [show Try.prog.cellsOf 3 = 1 by kernel_rfl] at h1; exact h1))))
  have h2 := hf 2 _ rfl
  rw [List.getElem?_eq_getElem (show 2 < xs.length by rw [hxl]; decide)] at h2
  obtain ⟨v2, K2, G2⟩ := (opens_bool Try.underlying4 (by kernel_rfl)).2 enc w base spare held n [c2] _ ((show DataW.trod enc Try.prog w base spare held n 4 [c2] = _ from (by first | exact h2 | (rw [show Try.prog.cellsOf 4 = 1 by kernel_rfl] at h2; exact h2))))
  exact ⟨⟨v0, v1, v2⟩, ⟨[c0], [c1, c2], rfl, K0, ⟨[c1], [c2], rfl, K1, K2⟩⟩, ⟨G0, G1, G2⟩⟩
end Go.Proofs.Ytjkddaokhmflbaa.Q
end

section
namespace Go.Proofs.Ytjkddaokhmflbaa.Q
open Go.RowKit Go.Proofs.YtjkddaokhmflbaaW.PrintWords Go.Proofs.YtjkddaokhmflbaaW.PrintLast Go.Proofs.YtjkddaokhmflbaaW.PrintMore
attribute [local go_sem] max2_int min2_int max_two min_two max_three min_three max_four min_four   -- for this text's walks alone
set_option linter.unusedVariables false
set_option linter.unusedSimpArgs false
attribute [local go_sem] bin_leq bin_gtr bin_geq
def good89 (x : S89) : Prop := (fun n => (Lit.int .i64 n).wf = true) x.f0 ∧ (fun s => s.size ≤ 9223372036854775807) x.f1 ∧ (fun s => s.size ≤ 9223372036854775807) x.f2 ∧ (fun s => s.size ≤ 9223372036854775807) x.f3 ∧ (fun l => l.length ≤ 9223372036854775807 ∧ ∀ x, x ∈ l → good125 x) x.f4
set_option maxRecDepth 100000 in
theorem opens_89 : Opens Try.prog k89 89 good89 := by
  refine ⟨by kernel_rfl, fun enc w base spare held fuel cs x h => ?_⟩
  obtain ⟨xs, n, _, _, hcl, hxl, hf⟩ := DataW.trod_struct Try.underlying89 h
  have hcl2 : cs.length = 5 := hcl.trans (by kernel_rfl)
  obtain ⟨c0, c1, c2, c3, c4, rfl⟩ : ∃ c0 c1 c2 c3 c4, cs = [c0, c1, c2, c3, c4] := by
    match cs, hcl2 with
    | [c0, c1, c2, c3, c4], _ => exact ⟨c0, c1, c2, c3, c4, rfl⟩
  have h0 := hf 0 _ rfl
  rw [List.getElem?_eq_getElem (show 0 < xs.length by rw [hxl]; decide)] at h0
  obtain ⟨v0, K0, G0⟩ := (opens_int (k := .i64) Try.underlying3 (by kernel_rfl)).2 enc w base spare held n [c0] _ ((show DataW.trod enc Try.prog w base spare held n 3 [c0] = _ from (by first | exact h0 | (rw [show Try.prog.cellsOf 3 = 1 by kernel_rfl] at h0; exact h0))))
  have h1 := hf 1 _ rfl
  rw [List.getElem?_eq_getElem (show 1 < xs.length by rw [hxl]; decide)] at h1
  obtain ⟨v1, K1, G1⟩ := (opens_string Try.underlying9 (by kernel_rfl)).2 enc w base spare held n [c1] _ ((show DataW.trod enc Try.prog w base spare held n 9 [c1] = _ from (by first | exact h1 | (rw [show Try.prog.cellsOf 9 = 1 by kernel_rfl] at h1; exact h1))))
  have h2 := hf 2 _ rfl
  rw [List.getElem?_eq_getElem (show 2 < xs.length by rw [hxl]; decide)] at h2
  obtain ⟨v2, K2, G2⟩ := (opens_string Try.underlying9 (by kernel_rfl)).2 enc w base spare held n [c2] _ ((show DataW.trod enc Try.prog w base spare held n 9 [c2] = _ from (by first | exact h2 | (rw [show Try.prog.cellsOf 9 = 1 by kernel_rfl] at h2; exact h2))))
  have h3 := hf 3 _ rfl
  rw [List.getElem?_eq_getElem (show 3 < xs.length by rw [hxl]; decide)] at h3
  obtain ⟨v3, K3, G3⟩ := (opens_string Try.underlying9 (by kernel_rfl)).2 enc w base spare held n [c3] _ ((show DataW.trod enc Try.prog w base spare held n 9 [c3] = _ from (by first | exact h3 | (rw [show Try.prog.cellsOf 9 = 1 by kernel_rfl] at h3; exact h3))))
  have h4 := hf 4 _ rfl
  rw [List.getElem?_eq_getElem (show 4 < xs.length by rw [hxl]; decide)] at h4
  obtain ⟨v4, K4, G4⟩ := (opens_slice Try.underlying87 (by kernel_rfl) opens_125).2 enc w base spare held n [c4] _ ((show DataW.trod enc Try.prog w base spare held n 87 [c4] = _ from (by first | exact h4 | (rw [show Try.prog.cellsOf 87 = 1 by kernel_rfl] at h4; exact h4))))
  exact ⟨⟨v0, v1, v2, v3, v4⟩, ⟨[c0], [c1, c2, c3, c4], rfl, K0, ⟨[c1], [c2, c3, c4], rfl, K1, ⟨[c2], [c3, c4], rfl, K2, ⟨[c3], [c4], rfl, K3, K4⟩⟩⟩⟩, ⟨G0, G1, G2, G3, G4⟩⟩
end Go.Proofs.Ytjkddaokhmflbaa.Q
end

section
namespace Go.Proofs.Ytjkddaokhmflbaa.Q
open Go.RowKit Go.Proofs.YtjkddaokhmflbaaW.PrintWords Go.Proofs.YtjkddaokhmflbaaW.PrintLast Go.Proofs.YtjkddaokhmflbaaW.PrintMore
attribute [local go_sem] max2_int min2_int max_two min_two max_three min_three max_four min_four   -- for this text's walks alone
set_option linter.unusedVariables false
set_option linter.unusedSimpArgs false
attribute [local go_sem] bin_leq bin_gtr bin_geq
def laws_FnExactNewClient.Pure : Prop := ∀ (l0 : List (S89)), (fun l => l.length ≤ 9223372036854775807 ∧ ∀ x, x ∈ l → good89 x) l0 → ∃ k, laws_FnExactNewClient.f k l0 = some true
theorem laws_FnExactNewClient.walk (P : laws_FnExactNewClient.Pure) (A0 : Option Addr) (c0 : Nat) (l0 : List (S89)) (w : World) (w0 : (fun l => l.length ≤ 9223372036854775807 ∧ ∀ x, x ∈ l → good89 x) l0) (hr0 : Kd.C k89 w A0 l0.length l0) (hc0 : l0.length ≤ c0) :
    Calls Try.prog 5 #[.slice A0 l0.length c0] w fun e w' => e = .returned (.bool true) ∧ Below w.heap.size w w' := by
  obtain ⟨k, hk⟩ := P l0 w0
  exact (laws_FnExactNewClient.calls k A0 c0 l0 w hr0 hc0 hk).mono fun e w' h => ⟨h.1, h.2⟩
end Go.Proofs.Ytjkddaokhmflbaa.Q
end

section
namespace Go.Proofs.Ytjkddaokhmflbaa.Q
open Go.RowKit Go.Proofs.YtjkddaokhmflbaaW.PrintWords Go.Proofs.YtjkddaokhmflbaaW.PrintLast
set_option linter.unusedVariables false
set_option linter.unusedSimpArgs false
theorem eqEdit_refl (x : S119) : laws_eqEdit.f x.f0 x.f1 x.f2 x.f0 x.f1 x.f2 = some true := by
  unfold laws_eqEdit.f
  simp
theorem eqEditS_ev (l : List S119) (h : l.length ≤ 1048576) : Ev (fun k => laws_eqEditS.f k l l) true := by
  refine Ev.congr (f := fun k => laws_eqEditS.l0 k l l 0) (fun k => ?_) ?_
  · unfold laws_eqEditS.f
    rw [if_pos rfl]
  · exact ev_refl_loop (L := laws_eqEditS.l0) (g := fun _ x y => laws_eqEdit.f x.f0 x.f1 x.f2 y.f0 y.f1 y.f2) (z := z119) (fun _ _ _ _ => rfl) l (by omega) (fun x _ => Ev.congr (fun _ => eqEdit_refl x) (Ev.now _))
end Go.Proofs.Ytjkddaokhmflbaa.Q
end

section
namespace Go.Proofs.Ytjkddaokhmflbaa.Q
open Go.RowKit Go.Proofs.YtjkddaokhmflbaaW.PrintWords Go.Proofs.YtjkddaokhmflbaaW.PrintLast
set_option linter.unusedVariables false
def cvEdit (x : S125) : S119 := ⟨x.f0, x.f1, x.f2⟩
theorem toEditS_ev (l : List S125) (h : l.length ≤ 1048576) : Ev (fun k => laws_toEditS.f k l) (l.map cvEdit) := by
  refine Ev.congr (f := fun k => laws_toEditS.l0 k l (List.replicate l.length z119) 0) (fun k => ?_) ?_
  · unfold laws_toEditS.f
    rw [if_pos (by omega), if_pos (by omega)]
    rfl
  · exact ev_map_loop (L := laws_toEditS.l0) (g := fun _ x => some (cvEdit x)) (z := z125) (fun _ _ _ _ => rfl) l (by omega) (fun x _ => Ev.now _) _ (by simp)
end Go.Proofs.Ytjkddaokhmflbaa.Q
end

section
namespace Go.Proofs.Ytjkddaokhmflbaa.Q
open Go.RowKit Go.Proofs.YtjkddaokhmflbaaW.PrintWords Go.Proofs.YtjkddaokhmflbaaW.PrintLast
set_option linter.unusedVariables false
set_option linter.unusedSimpArgs false
theorem markText_l0 : ∀ (d : Nat) (n : Int) (s : ByteArray), 0 ≤ n → n ≤ 9223372036854775807 → n < 10 ^ d → s.size + d ≤ 1000 → ∃ r, Ev (fun k => laws_markText.l0 k n s) r := by
  intro d
  induction d with
  | zero =>
    intro n s h0 hn9 h1 hs
    have hn : ¬ n > 0 := by simp at h1; omega
    have hz : 1 + s.size ≤ 9223372036854775807 := by omega
    exact ⟨_, Ev.at_ (c := 1) (fun k => by simp only [laws_markText.l0, hn, if_false, hz, if_true]; rfl)⟩
  | succ d ih =>
    intro n s h0 hn9 h1 hs
    by_cases hn : n > 0
    · have e1 : Int.tdiv n 10 = n / 10 := Int.tdiv_eq_ediv_of_nonneg h0
      have h2 : n / 10 < 10 ^ d := by
        rw [Int.pow_succ] at h1
        omega
      have hw : wrap64 (n / 10) = n / 10 := by unfold wrap64; omega
      have hz : (strOfNums [(wrap64 (48 + (Int.tmod n 10))) % 256]).size = 1 := rfl
      have hz2 : 1 + s.size ≤ 9223372036854775807 := by omega
      obtain ⟨r, hr⟩ := ih (n / 10) (strOfNums [(wrap64 (48 + (Int.tmod n 10))) % 256] ++ s) (by omega) (by omega) h2 (by rw [ByteArray.size_append, hz]; omega)
      refine ⟨r, Ev.step (fun k => ?_) hr⟩
      simp only [laws_markText.l0, hn, if_true, Option.bind_some, hz, hz2, e1, hw]
    · have hz : 1 + s.size ≤ 9223372036854775807 := by omega
      exact ⟨_, Ev.at_ (c := 1) (fun k => by simp only [laws_markText.l0, hn, if_false, hz, if_true]; rfl)⟩
theorem markTexts : ∃ mt : Int → ByteArray, ∀ n, 0 ≤ n → n ≤ 1000000000 → Ev (fun k => laws_markText.f k n) (mt n) := by
  have h : ∀ n : Int, ∃ s, 0 ≤ n → n ≤ 1000000000 → Ev (fun k => laws_markText.f k n) s := by
    intro n
    by_cases h0 : 0 ≤ n ∧ n ≤ 1000000000
    · by_cases h1 : n ≤ 0
      · exact ⟨_, fun _ _ => Ev.at_ (c := 0) (fun k => by unfold laws_markText.f; rw [if_pos h1])⟩
      · obtain ⟨s, hs⟩ := markText_l0 10 n (⟨#[]⟩ : ByteArray) h0.1 (by omega) (by omega) (by decide)
        exact ⟨s, fun _ _ => Ev.congr (fun k => by unfold laws_markText.f; rw [if_neg h1]) hs⟩
    · exact ⟨ByteArray.empty, fun a b => absurd ⟨a, b⟩ h0⟩
  exact ⟨fun n => Classical.choose (h n), fun n => Classical.choose_spec (h n)⟩
theorem ev_mark_loop {α : Type} {L : Nat → List α → Int → Int → Option (Int × List α)} {H : Nat → List α → Int → Int → Option Int} {mk : α → Int → α} {c : Int} (hc : 0 ≤ c)
    (stepL : ∀ (l : List α) (m : Int) (i : Nat) (hi : i < l.length), l.length ≤ 1048576 → 0 ≤ m → m ≤ 900000000 → ∀ r, Ev (fun k => L k (l.set i (mk l[i] m)) (m + c) ((i + 1 : Nat) : Int)) r → Ev (fun k => L k l m (i : Int)) r)
    (stepH : ∀ (l : List α) (m : Int) (i : Nat) (hi : i < l.length) (y : α), l[i] = mk y m → l.length ≤ 1048576 → 0 ≤ m → m ≤ 900000000 → ∀ r, Ev (fun k => H k l (m + c) ((i + 1 : Nat) : Int)) r → Ev (fun k => H k l m (i : Int)) r)
    (doneL : ∀ (l : List α) (m : Int) k, L (k + 1) l m (l.length : Int) = some (m, l)) (doneH : ∀ (l : List α) (m : Int) k, H (k + 1) l m (l.length : Int) = some m)
    (l : List α) (m : Int) (hl : l.length ≤ 1048576) (h0 : 0 ≤ m) (hm : m + c * l.length ≤ 900000000) :
    ∃ l', l'.length = l.length ∧ Ev (fun k => L k l m 0) (m + c * l.length, l') ∧ Ev (fun k => H k l' m 0) (m + c * l.length) := by
  have key : ∀ (d i : Nat) (l : List α) (m : Int), i + d = l.length → l.length ≤ 1048576 → 0 ≤ m → m + c * d ≤ 900000000 →
      ∃ l', l'.length = l.length ∧ l'.take i = l.take i ∧ Ev (fun k => L k l m (i : Int)) (m + c * d, l') ∧ Ev (fun k => H k l' m (i : Int)) (m + c * d) := by
    intro d
    induction d with
    | zero =>
      intro i l m hi hl h0 hm
      obtain rfl : i = l.length := by omega
      refine ⟨l, rfl, rfl, ?_, ?_⟩
      · simp only [Int.natCast_zero, Int.mul_zero, Int.add_zero]
        exact Ev.at_ (c := 1) (doneL l m)
      · simp only [Int.natCast_zero, Int.mul_zero, Int.add_zero]
        exact Ev.at_ (c := 1) (doneH l m)
    | succ d ih =>
      intro i l m hi hl h0 hm
      have hil : i < l.length := by omega
      have e : m + c + c * (d : Int) = m + c * ((d + 1 : Nat) : Int) := by
        rw [Int.natCast_add, Int.natCast_one, Int.mul_add, Int.mul_one]
        omega
      have hcd : 0 ≤ c * (d : Int) := Int.mul_nonneg hc (Int.natCast_nonneg d)
      obtain ⟨l', hl', ht, hL, hH⟩ := ih (i + 1) (l.set i (mk l[i] m)) (m + c) (by rw [List.length_set]; omega) (by rw [List.length_set]; omega) (by omega) (by omega)
      rw [List.length_set] at hl'
      rw [e] at hL hH
      have hg : l'[i]'(by omega) = mk l[i] m := by
        have h1 : (l'.take (i + 1))[i]'(by rw [List.length_take]; omega) = ((l.set i (mk l[i] m)).take (i + 1))[i]'(by rw [List.length_take, List.length_set]; omega) := by simp only [ht]
        simpa using h1
      refine ⟨l', hl', ?_, stepL l m i hil hl h0 (by omega) _ hL, stepH l' m i (by omega) l[i] hg (by omega) h0 (by omega) _ hH⟩
      have h2 := congrArg (List.take i) ht
      rw [List.take_take, List.take_take, Nat.min_eq_left (by omega)] at h2
      rw [h2, List.take_set_of_le (Nat.le_refl _)]
  obtain ⟨l', h1, _, h3, h4⟩ := key l.length 0 l m (by omega) hl h0 hm
  exact ⟨l', h1, h3, h4⟩
end Go.Proofs.Ytjkddaokhmflbaa.Q
end

section
namespace Go.Proofs.Ytjkddaokhmflbaa.Q
open Go.RowKit Go.Proofs.YtjkddaokhmflbaaW.PrintWords Go.Proofs.YtjkddaokhmflbaaW.PrintLast
set_option linter.unusedVariables false
set_option linter.unusedSimpArgs false
theorem markEditS_ev (l : List S119) (m : Int) (hl : l.length ≤ 1048576) (h0 : 0 ≤ m) (hm : m + 3 * l.length ≤ 900000000) :
    ∃ l', l'.length = l.length ∧ Ev (fun k => laws_markEditS.f k l m) (m + 3 * l.length, l') ∧ Ev (fun k => laws_heldEditS.f k l' m) (m + 3 * l.length) := by
  obtain ⟨mt, hmt⟩ := markTexts
  have rd0 : ∀ (l : List S119) (i : Nat) (h : i < l.length), rd_T119 l (i : Int) = l[i] := fun l i h => by simp [rd_T119, List.getD_eq_getElem?_getD, List.getElem?_eq_getElem h]
  have rd1 : ∀ (l : List S119) (i : Nat) (v : S119) (h : i < l.length), rd_T119 (l.set i v) (i : Int) = v := fun l i v h => by rw [rd0 _ _ (by rw [List.length_set]; exact h)]; simp
  refine ev_mark_loop (L := laws_markEditS.l0) (H := laws_heldEditS.l0) (mk := fun x m => ⟨mt (m), m + 1, (Int.tmod (m + 2) 3 == 0)⟩) (c := 3) (by omega) ?_ ?_ ?_ ?_ l m hl h0 hm
  · intro l m i hi hl h0 hm r hr
    have c1 : (i : Int) < (l.length : Int) := by omega
    have w := wrap_i (show i < 4611686018427387904 by omega)
    have w1 : wrap64 (m + 1) = m + 1 := by unfold wrap64; omega
    have w2 : wrap64 (m + 1 + 1) = m + 2 := by unfold wrap64; omega
    have w3 : wrap64 (m + 2 + 1) = m + 3 := by unfold wrap64; omega
    refine Ev.succ (g := fun k => laws_markEditS.l0 k l m (i : Int)) ?_
    simp only [laws_markEditS.l0, c1, if_true, Int.natCast_nonneg, Option.bind_some, Int.toNat_natCast, rd0 l i hi, rd1 l i _ hi, List.set_set, w, w1, w2, w3]
    refine Ev.bind (hmt (m) (by omega) (by omega)) ?_
    (try simp only [if_true, rd0 l i hi, rd1 l i _ hi, List.set_set, Option.bind_some, w1, w2, w3, bne_self_eq_false, Bool.false_eq_true, if_false])
    exact hr
  · intro l m i hi y hy hl h0 hm r hr
    have c1 : (i : Int) < (l.length : Int) := by omega
    have w := wrap_i (show i < 4611686018427387904 by omega)
    have w1 : wrap64 (m + 1) = m + 1 := by unfold wrap64; omega
    have w2 : wrap64 (m + 1 + 1) = m + 2 := by unfold wrap64; omega
    have w3 : wrap64 (m + 2 + 1) = m + 3 := by unfold wrap64; omega
    refine Ev.succ (g := fun k => laws_heldEditS.l0 k l m (i : Int)) ?_
    simp only [laws_heldEditS.l0, c1, if_true, Int.natCast_nonneg, rd0 l i hi, hy, w, w1, w2, w3, bne_self_eq_false, Bool.false_eq_true, if_false]
    refine Ev.bind (hmt (m) (by omega) (by omega)) ?_
    (try simp only [if_true, rd0 l i hi, rd1 l i _ hi, List.set_set, Option.bind_some, w1, w2, w3, bne_self_eq_false, Bool.false_eq_true, if_false])
    exact hr
  · intro l m k
    simp only [laws_markEditS.l0]
    rw [if_neg (by omega)]
  · intro l m k
    simp only [laws_heldEditS.l0]
    rw [if_neg (by omega)]
end Go.Proofs.Ytjkddaokhmflbaa.Q
end

section
namespace Go.Proofs.Ytjkddaokhmflbaa.Q
open Go.RowKit Go.Proofs.YtjkddaokhmflbaaW.PrintWords Go.Proofs.YtjkddaokhmflbaaW.PrintLast
set_option linter.unusedVariables false
theorem eqEntry_refl (x : S74) : laws_eqEntry.f x.f0 x.f1 x.f0 x.f1 = some true := by
  unfold laws_eqEntry.f
  simp
theorem eqEntryS_ev (l : List S74) (h : l.length ≤ 1048576) : Ev (fun k => laws_eqEntryS.f k l l) true := by
  refine Ev.congr (f := fun k => laws_eqEntryS.l0 k l l 0) (fun k => ?_) ?_
  · unfold laws_eqEntryS.f
    rw [if_pos rfl]
  · exact ev_refl_loop (L := laws_eqEntryS.l0) (g := fun _ x y => laws_eqEntry.f x.f0 x.f1 y.f0 y.f1) (z := z74) (fun _ _ _ _ => rfl) l (by omega) (fun x _ => Ev.congr (fun _ => eqEntry_refl x) (Ev.now _))
end Go.Proofs.Ytjkddaokhmflbaa.Q
end

section
namespace Go.Proofs.Ytjkddaokhmflbaa.Pure
open Go.RowKit Go.Proofs.Ytjkddaokhmflbaa.Q Go.Proofs.YtjkddaokhmflbaaW.PrintWords Go.Proofs.YtjkddaokhmflbaaW.PrintLast
set_option linter.unusedVariables false
set_option linter.unusedSimpArgs false
theorem szEdit3 (l : List S125) (hl : l.length ≤ 9223372036854775807) (hg : ∀ x, x ∈ l → good125 x) (left : Int) (h0 : 0 ≤ left) (h1 : left ≤ 1048576) :
    ∃ r, Ev (fun k => laws_szEditS.f k l left) r ∧ r ≤ left ∧ (0 ≤ r → (l.length : Int) ≤ left - r) := by
  have hw : wrap64 (left - (l.length : Int)) = left - (l.length : Int) := by unfold wrap64; omega
  by_cases hn : left - (l.length : Int) < 0
  · refine ⟨-1, Ev.congr (f := fun _ => some (-1)) (fun k => ?_) (Ev.now _), by omega, by omega⟩
    unfold laws_szEditS.f
    rw [hw, if_pos hn]
  · obtain ⟨r, hr, hrl⟩ := ev_sz_loop (L := laws_szEditS.l0) (g := fun _ x left => laws_szEdit.f x.f0 x.f1 x.f2 left) (z := z125) (fun _ _ _ _ => rfl) l (by omega) (fun x hx left h0 h1 => by
      have hsz : x.f0.size ≤ 9223372036854775807 := (hg x hx).1
      have hw2 : wrap64 (left - (x.f0.size : Int)) = left - (x.f0.size : Int) := by unfold wrap64; omega
      by_cases h2 : left - (x.f0.size : Int) < 0
      · refine ⟨-1, Ev.congr (f := fun _ => some (-1)) (fun k => ?_) (Ev.now _), by omega⟩
        unfold laws_szEdit.f
        rw [hw2, if_pos h2]
      · refine ⟨left - (x.f0.size : Int), Ev.congr (f := fun _ => some (left - (x.f0.size : Int))) (fun k => ?_) (Ev.now _), by omega⟩
        unfold laws_szEdit.f
        rw [hw2, if_neg h2]) (left - (l.length : Int)) (by omega) (by omega)
    refine ⟨r, Ev.congr (f := fun k => laws_szEditS.l0 k l (left - (l.length : Int)) 0) (fun k => ?_) hr, by omega, by omega⟩
    unfold laws_szEditS.f
    rw [hw, if_neg hn]
theorem szWish3 (x : S89) (g : good89 x) (left : Int) (h0 : 0 ≤ left) (h1 : left ≤ 1048576) :
    ∃ r, Ev (fun k => laws_szWish.f k x.f0 x.f1 x.f2 x.f3 x.f4 left) r ∧ r ≤ left ∧ (0 ≤ r → (x.f4.length : Int) ≤ left - r) := by
  unfold laws_szWish.f
  have g0 : x.f1.size ≤ 9223372036854775807 := g.2.1
  have w0 : wrap64 (left - (x.f1.size : Int)) = left - (x.f1.size : Int) := by unfold wrap64; omega
  by_cases n0 : left - (x.f1.size : Int) < 0
  · exact ⟨-1, by simp only [w0, n0, if_false, if_true]; exact Ev.now _, by omega, by omega⟩
  have g1 : x.f2.size ≤ 9223372036854775807 := g.2.2.1
  have w1 : wrap64 (left - (x.f1.size : Int) - (x.f2.size : Int)) = left - (x.f1.size : Int) - (x.f2.size : Int) := by unfold wrap64; omega
  by_cases n1 : left - (x.f1.size : Int) - (x.f2.size : Int) < 0
  · exact ⟨-1, by simp only [w0, w1, n0, n1, if_false, if_true]; exact Ev.now _, by omega, by omega⟩
  have g2 : x.f3.size ≤ 9223372036854775807 := g.2.2.2.1
  have w2 : wrap64 (left - (x.f1.size : Int) - (x.f2.size : Int) - (x.f3.size : Int)) = left - (x.f1.size : Int) - (x.f2.size : Int) - (x.f3.size : Int) := by unfold wrap64; omega
  by_cases n2 : left - (x.f1.size : Int) - (x.f2.size : Int) - (x.f3.size : Int) < 0
  · exact ⟨-1, by simp only [w0, w1, w2, n0, n1, n2, if_false, if_true]; exact Ev.now _, by omega, by omega⟩
  obtain ⟨r, hr, hrl, hrs⟩ := szEdit3 x.f4 g.2.2.2.2.1 g.2.2.2.2.2 (left - (x.f1.size : Int) - (x.f2.size : Int) - (x.f3.size : Int)) (by omega) (by omega)
  by_cases n9 : r < 0
  · exact ⟨-1, by simp only [w0, w1, w2, n0, n1, n2, if_false]; refine Ev.bind hr ?_; simp only [n9, if_true]; exact Ev.now _, by omega, by omega⟩
  · exact ⟨r, by simp only [w0, w1, w2, n0, n1, n2, if_false]; refine Ev.bind hr ?_; simp only [n9, if_false]; exact Ev.now _, by omega, fun h => by have := hrs h; omega⟩
def lds (l : List S89) : Nat := (l.map (fun x => x.f4.length)).sum
theorem szWishL (xs : List S89) (hlen : xs.length ≤ 4611686018427387904) (hg : ∀ x, x ∈ xs → good89 x) : ∀ (d i : Nat) (left : Int), i + d = xs.length → 0 ≤ left → left ≤ 1048576 →
    ∃ r, Ev (fun k => laws_szWishS.l0 k xs left (i : Int)) r ∧ r ≤ left ∧ (0 ≤ r → (lds (xs.drop i) : Int) ≤ left - r) := by
  intro d
  induction d with
  | zero =>
    intro i left hi h0 h1
    refine ⟨left, Ev.step (f := fun _ => some left) (fun k => by simp only [laws_szWishS.l0]; rw [if_neg (by omega)]) (Ev.now left), by omega, fun _ => ?_⟩
    rw [List.drop_eq_nil_of_le (by omega)]
    simp [lds]
  | succ d ih =>
    intro i left hi h0 h1
    have hl : i < xs.length := by omega
    have hw : wrap64 ((i : Int) + 1) = ((i + 1 : Nat) : Int) := by unfold wrap64; omega
    have hx : rd_T89 xs (i : Int) = xs[i] := by simp [rd_T89, List.getD_eq_getElem?_getD, List.getElem?_eq_getElem hl]
    obtain ⟨t, ht, htl, hP⟩ := szWish3 _ (hg _ (List.getElem_mem hl)) left h0 h1
    have hstep : ∀ k, laws_szWishS.l0 (k + 1) xs left (i : Int) = (laws_szWish.f k xs[i].f0 xs[i].f1 xs[i].f2 xs[i].f3 xs[i].f4 left).bind fun t => if t < 0 then some (-1) else laws_szWishS.l0 k xs t ((i + 1 : Nat) : Int) := fun k => by
      simp only [laws_szWishS.l0]
      rw [if_pos (by omega), if_pos (by omega), hx, hw]
    by_cases hn : t < 0
    · refine ⟨-1, Ev.step hstep (Ev.bind ht ?_), by omega, by omega⟩
      simp only [hn, if_true]
      exact Ev.now _
    · obtain ⟨r, hr, hrl, hrP⟩ := ih (i + 1) t (by omega) (by omega) (by omega)
      refine ⟨r, Ev.step hstep (Ev.bind ht ?_), by omega, fun h => ?_⟩
      · simp only [hn, if_false]
        exact hr
      · rw [List.drop_eq_getElem_cons hl]
        have h2 := hrP h
        have h3 := hP (by omega)
        have e : lds (xs[i] :: xs.drop (i + 1)) = xs[i].f4.length + lds (xs.drop (i + 1)) := by unfold lds; rw [List.map_cons, List.sum_cons]
        rw [e]
        omega
theorem szWishS3 (l : List S89) (hl : l.length ≤ 9223372036854775807) (hg : ∀ x, x ∈ l → good89 x) :
    ∃ r, Ev (fun k => laws_szWishS.f k l 1048576) r ∧ (0 ≤ r → l.length ≤ 1048576 ∧ lds l ≤ 1048576) := by
  have hw : wrap64 (1048576 - (l.length : Int)) = 1048576 - (l.length : Int) := by unfold wrap64; omega
  by_cases hn : 1048576 - (l.length : Int) < 0
  · refine ⟨-1, Ev.congr (f := fun _ => some (-1)) (fun k => ?_) (Ev.now _), by omega⟩
    unfold laws_szWishS.f
    rw [hw, if_pos hn]
  · obtain ⟨r, hr, hrl, hrP⟩ := szWishL l (by omega) hg l.length 0 (1048576 - (l.length : Int)) (by omega) (by omega) (by omega)
    refine ⟨r, Ev.congr (f := fun k => laws_szWishS.l0 k l (1048576 - (l.length : Int)) 0) (fun k => ?_) hr, fun h => ?_⟩
    · unfold laws_szWishS.f
      rw [hw, if_neg hn]
    · have h2 := hrP h
      rw [List.drop_zero] at h2
      omega
def cvWish (x : S89) : S94 := ⟨x.f0, x.f1, x.f2, x.f3, x.f4.map cvEdit⟩
def eds (l : List S94) : Nat := (l.map (fun x => x.f4.length)).sum
theorem eds_cv (l : List S89) : eds (l.map cvWish) = lds l := by
  unfold eds lds
  rw [List.map_map]
  congr 1
  apply List.map_congr_left
  intro x _
  simp [cvWish]
theorem le_sum {α : Type} {f : α → Nat} : ∀ {l : List α} {x : α}, x ∈ l → f x ≤ (l.map f).sum
  | y :: l, x, h => by
    simp only [List.map_cons, List.sum_cons]
    rcases List.mem_cons.mp h with rfl | h
    · omega
    · have := le_sum (f := f) h
      omega
theorem toWishS3 (l : List S89) (h : l.length ≤ 1048576) (hs : lds l ≤ 1048576) : Ev (fun k => laws_toWishS.f k l) (l.map cvWish) := by
  refine Ev.congr (f := fun k => laws_toWishS.l0 k l (List.replicate l.length z94) 0) (fun k => ?_) ?_
  · unfold laws_toWishS.f
    rw [if_pos (by omega), if_pos (by omega)]
    rfl
  · exact ev_map_loop (L := laws_toWishS.l0) (g := fun k x => (laws_toWish.f k x.f0 x.f1 x.f2 x.f3 x.f4).bind fun bt => some (⟨bt.1, bt.2.1, bt.2.2.1, bt.2.2.2.1, bt.2.2.2.2⟩ : S94)) (cv := cvWish) (z := z89) (fun k xs acc i => by
      simp only [laws_toWishS.l0, Option.bind_assoc, Option.bind_some]
      rfl) l (by omega) (fun x hx => by
        have h2 : x.f4.length ≤ lds l := le_sum (f := fun x : S89 => x.f4.length) hx
        refine Ev.bind (a := (x.f0, x.f1, x.f2, x.f3, x.f4.map cvEdit)) ?_ (Ev.now _)
        unfold laws_toWish.f
        exact Ev.bind (toEditS_ev x.f4 (by omega)) (Ev.now _)) _ (by simp)
theorem eqWishS3 (l : List S94) (h : l.length ≤ 1048576) (hs : eds l ≤ 1048576) : Ev (fun k => laws_eqWishS.f k l l) true := by
  refine Ev.congr (f := fun k => laws_eqWishS.l0 k l l 0) (fun k => ?_) ?_
  · unfold laws_eqWishS.f
    rw [if_pos rfl]
  · exact ev_refl_loop (L := laws_eqWishS.l0) (g := fun k x y => laws_eqWish.f k x.f0 x.f1 x.f2 x.f3 x.f4 y.f0 y.f1 y.f2 y.f3 y.f4) (z := z94) (fun _ _ _ _ => rfl) l (by omega) (fun x hx => by
      have h2 : x.f4.length ≤ eds l := le_sum (f := fun x : S94 => x.f4.length) hx
      unfold laws_eqWish.f
      simp only [if_true]
      refine Ev.bind (eqEditS_ev x.f4 (by omega)) ?_
      simp only [if_true]
      exact Ev.now _)
theorem markWish3 : ∀ (l : List S94) (m : Int), l.length ≤ 1048576 → (∀ x, x ∈ l → x.f4.length ≤ 1048576) → 0 ≤ m → m + 4 * l.length + 3 * eds l ≤ 900000000 →
    ∃ l2, Ev (fun k => laws_markWishS.f k l m) (m + 4 * l.length + 3 * eds l, l2) ∧ ∀ pre : List S94, pre.length + l.length ≤ 1048576 → Ev (fun k => laws_heldWishS.l0 k (pre ++ l2) m (pre.length : Int)) (m + 4 * l.length + 3 * eds l) ∧ l2.length = l.length
  | [], m, _, _, _, _ => by
    have e : m + 4 * (([] : List S94).length : Int) + 3 * (eds [] : Int) = m := by simp [eds]
    rw [e]
    refine ⟨[], Ev.at_ (c := 0) (fun _ => rfl), fun pre _ => ⟨Ev.succ (Ev.congr (f := fun _ => some m) (fun k => ?_) (Ev.now _)), rfl⟩⟩
    simp only [laws_heldWishS.l0, List.append_nil]
    rw [if_neg (by omega)]
  | x :: l, m, hl, hf, h0, hm => by
    obtain ⟨mt, hmt⟩ := markTexts
    have e1 : eds (x :: l) = x.f4.length + eds l := by simp [eds]
    have e2 : (x :: l).length = l.length + 1 := rfl
    have hx := hf x List.mem_cons_self
    rw [e1, e2] at hm
    rw [e2] at hl
    have w1 : wrap64 (m + 1) = m + 1 := by unfold wrap64; omega
    have w2 : wrap64 (m + 1 + 1) = m + 2 := by unfold wrap64; omega
    have w3 : wrap64 (m + 2 + 1) = m + 3 := by unfold wrap64; omega
    have w4 : wrap64 (m + 3 + 1) = m + 4 := by unfold wrap64; omega
    obtain ⟨le, _, hE, hEh⟩ := markEditS_ev x.f4 (m + 4) hx (by omega) (by omega)
    obtain ⟨l2, hM, hH⟩ := markWish3 l (m + 4 + 3 * x.f4.length) (by omega) (fun y hy => hf y (List.mem_cons_of_mem _ hy)) (by omega) (by omega)
    have hl' : l.length ≤ 1048576 := by omega
    have hln := (hH [] (by simp only [List.length_nil, Nat.zero_add]; exact hl')).2
    have e3 : m + 4 + 3 * (x.f4.length : Int) + 4 * (l.length : Int) + 3 * (eds l : Int) = m + 4 * ((x :: l).length : Int) + 3 * (eds (x :: l) : Int) := by rw [e1, e2]; omega
    rw [e3] at hM
    refine ⟨⟨m, mt (m + 1), mt (m + 2), mt (m + 3), le⟩ :: l2, ?_, fun pre hp => ⟨?_, by rw [List.length_cons, hln, e2]⟩⟩
    · refine Ev.congr (f := fun k => (laws_markText.f k (m + 1)).bind fun n => (laws_markText.f k (m + 2)).bind fun s => (laws_markText.f k (m + 3)).bind fun y => (laws_markEditS.f k x.f4 (m + 4)).bind fun e => (laws_markWishS.f k l e.1).bind fun v => some (v.1, ⟨m, n, s, y, e.2⟩ :: v.2)) (fun k => ?_) ?_
      · rw [laws_markWishS.f, w1, w2, w3, w4]
      · exact Ev.bind (hmt (m + 1) (by omega) (by omega)) (Ev.bind (hmt (m + 2) (by omega) (by omega)) (Ev.bind (hmt (m + 3) (by omega) (by omega)) (Ev.bind hE (Ev.bind hM (Ev.now _)))))
    · have h2 := (hH (pre ++ [⟨m, mt (m + 1), mt (m + 2), mt (m + 3), le⟩]) (by simp; rw [e2] at hp; omega)).1
      rw [e3, List.append_assoc, List.singleton_append] at h2
      have hw : wrap64 ((pre.length : Int) + 1) = (((pre ++ [(⟨m, mt (m + 1), mt (m + 2), mt (m + 3), le⟩ : S94)]).length : Nat) : Int) := by
        rw [e2] at hp
        simp only [List.length_append, List.length_singleton]
        unfold wrap64; omega
      have hrd : rd_T94 (pre ++ ⟨m, mt (m + 1), mt (m + 2), mt (m + 3), le⟩ :: l2) (pre.length : Int) = ⟨m, mt (m + 1), mt (m + 2), mt (m + 3), le⟩ := by simp [rd_T94, List.getD_eq_getElem?_getD]
      have c1 : (pre.length : Int) < ((pre ++ (⟨m, mt (m + 1), mt (m + 2), mt (m + 3), le⟩ : S94) :: l2).length : Int) := by simp; omega
      have n1 : ¬ (m + 4 + 3 * (x.f4.length : Int) < 0) := by omega
      refine Ev.succ (g := fun k => laws_heldWishS.l0 k (pre ++ ⟨m, mt (m + 1), mt (m + 2), mt (m + 3), le⟩ :: l2) m (pre.length : Int)) ?_
      simp only [laws_heldWishS.l0, c1, if_true, Int.natCast_nonneg, hrd, w1, w2, w3, w4, hw]
      refine Ev.bind (hmt (m + 1) (by omega) (by omega)) ?_
      simp only [if_true]
      refine Ev.bind (hmt (m + 2) (by omega) (by omega)) ?_
      simp only [if_true]
      refine Ev.bind (hmt (m + 3) (by omega) (by omega)) ?_
      simp only [if_true]
      refine Ev.bind hEh ?_
      simp only [n1, if_false]
      exact h2
theorem ncAll (v : List S94) (hv : v.length ≤ 1048576) : ∀ d i : Nat, i + d = v.length → Ev (fun k => spec_l07Wishes.l0 k v (i : Int)) ((v.drop i).all wishOf) := by
  intro d
  induction d with
  | zero =>
    intro i hi
    rw [List.drop_eq_nil_of_le (by omega)]
    exact Ev.step (f := fun _ => some true) (fun k => by simp only [spec_l07Wishes.l0]; rw [if_neg (by omega)]) (Ev.now _)
  | succ d ih =>
    intro i hi
    have hl : i < v.length := by omega
    have hw : wrap64 ((i : Int) + 1) = ((i + 1 : Nat) : Int) := by unfold wrap64; omega
    have hx : rd_T94 v (i : Int) = v[i] := by simp [rd_T94, List.getD_eq_getElem?_getD, List.getElem?_eq_getElem hl]
    have h1 := l07Wish_ev v[i].f0 v[i].f1 v[i].f2 v[i].f3 v[i].f4
    have hst : ∀ k, spec_l07Wishes.l0 (k + 1) v (i : Int) = (spec_l07Wish.f k v[i].f0 v[i].f1 v[i].f2 v[i].f3 v[i].f4).bind fun t => if t = true then spec_l07Wishes.l0 k v ((i + 1 : Nat) : Int) else some false := fun k => by
      simp only [spec_l07Wishes.l0]
      rw [if_pos (by omega), if_pos (by omega), hx, hw]
    refine Ev.step hst ?_
    refine Ev.bind h1 ?_
    rw [List.drop_eq_getElem_cons hl, List.all_cons]
    by_cases hb : wishB v[i].f0 v[i].f1 v[i].f2 v[i].f3 v[i].f4 = true
    · have hb2 : wishOf v[i] = true := hb
      simp only [hb, hb2, if_true, Bool.true_and]
      exact ih (i + 1) (by omega)
    · have hb2 : wishOf v[i] = false := Bool.eq_false_iff.mpr hb
      simp only [hb, hb2, Bool.false_and, Bool.false_eq_true, if_false]
      exact Ev.now _
theorem ncCopy (v : List S94) (hv : v.length ≤ 1048576) (hf : ∀ x, x ∈ v → x.f4.length ≤ 1048576) : ∀ (d i : Nat) (acc : List S94), i + d = v.length → acc.length = i → Ev (fun k => spec_l07CopyWishes.l0 k v acc (i : Int)) (acc ++ v.drop i) := by
  intro d
  induction d with
  | zero =>
    intro i acc hi ha
    rw [List.drop_eq_nil_of_le (by omega), List.append_nil]
    exact Ev.step (f := fun _ => some acc) (fun k => by simp only [spec_l07CopyWishes.l0]; rw [if_neg (by omega)]) (Ev.now _)
  | succ d ih =>
    intro i acc hi ha
    have hl : i < v.length := by omega
    have hw : wrap64 ((i : Int) + 1) = ((i + 1 : Nat) : Int) := by unfold wrap64; omega
    have hx : rd_T94 v (i : Int) = v[i] := by simp [rd_T94, List.getD_eq_getElem?_getD, List.getElem?_eq_getElem hl]
    have h4 := hf v[i] (List.getElem_mem hl)
    have h2 := ih (i + 1) (acc ++ [v[i]]) (by omega) (by simp [ha])
    rw [List.append_assoc, List.singleton_append, ← List.drop_eq_getElem_cons hl] at h2
    refine Ev.step (f := fun k => spec_l07CopyWishes.l0 k v (acc ++ [v[i]]) ((i + 1 : Nat) : Int)) (fun k => ?_) h2
    simp only [spec_l07CopyWishes.l0, Option.bind_some, List.nil_append, List.length_nil, Nat.zero_add]
    rw [if_pos (by omega), if_pos (by omega), hx, hw, if_pos (by omega), if_pos (by omega)]
theorem ncOwn (v : List S94) (hv : v.length ≤ 1048576) (hf : ∀ x, x ∈ v → x.f4.length ≤ 1048576) : ∀ (d i : Nat) (acc : List S94), i + d = v.length → acc.length = i → Ev (fun k => impl_ownWishes.l0 k acc v (v.length : Int) (i : Int)) (acc ++ v.drop i) := by
  intro d
  induction d with
  | zero =>
    intro i acc hi ha
    rw [List.drop_eq_nil_of_le (by omega), List.append_nil]
    exact Ev.step (f := fun _ => some acc) (fun k => by simp only [impl_ownWishes.l0]; rw [if_neg (by omega)]) (Ev.now _)
  | succ d ih =>
    intro i acc hi ha
    have hl : i < v.length := by omega
    have hw : wrap64 ((i : Int) + 1) = ((i + 1 : Nat) : Int) := by unfold wrap64; omega
    have hx : rd_T94 v (i : Int) = v[i] := by simp [rd_T94, List.getD_eq_getElem?_getD, List.getElem?_eq_getElem hl]
    have h4 := hf v[i] (List.getElem_mem hl)
    have h2 := ih (i + 1) (acc ++ [v[i]]) (by omega) (by simp [ha])
    rw [List.append_assoc, List.singleton_append, ← List.drop_eq_getElem_cons hl] at h2
    refine Ev.step (f := fun k => impl_ownWishes.l0 k (acc ++ [v[i]]) v (v.length : Int) ((i + 1 : Nat) : Int)) (fun k => ?_) h2
    have he : impl_Edit.f v[i].f4 = some v[i].f4 := by
      unfold impl_Edit.f
      rw [if_pos (by omega)]
    simp only [impl_ownWishes.l0]
    rw [if_pos (by omega), if_pos (by omega), if_pos (by omega), hx, hw, he, Option.bind_some, if_pos (by omega)]
abbrev Res : Type := List S94 × Int × Int × Int × Int × Int × Int × Int × List S74 × Int
def ncRes (v : List S94) : Res :=
  if v.length ≤ 4096 then (if v.length ≤ 6 then (if v.all wishOf = true then (v, 0, 0, 0, 0, 0, 0, 0, [], 0) else ([], 0, 0, 0, 0, 0, 0, 0, [], 1)) else ([], 0, 0, 0, 0, 0, 0, 0, [], 6)) else ([], 0, 0, 0, 0, 0, 0, 0, [], 2)
theorem ncSpec (v : List S94) (hv : v.length ≤ 1048576) (hf : ∀ x, x ∈ v → x.f4.length ≤ 1048576) : Ev (fun k => spec_NewClient.f k v) (ncRes v) := by
  unfold spec_NewClient.f ncRes
  by_cases h : v.length ≤ 4096
  · have n1 : ¬ ((v.length : Int) > 4096) := by omega
    simp only [n1, if_false, h, if_true]
    by_cases h6 : v.length ≤ 6
    · have n2 : ¬ ((v.length : Int) > 6) := by omega
      simp only [n2, if_false, h6, if_true]
      refine Ev.bind (a := v.all wishOf) ?_ ?_
      · have h2 := ncAll v hv v.length 0 (by omega)
        rw [List.drop_zero] at h2
        exact Ev.congr (f := fun k => spec_l07Wishes.l0 k v 0) (fun k => by unfold spec_l07Wishes.f; rw [if_neg n2]) h2
      · by_cases hb : v.all wishOf = true
        · simp only [hb, if_true]
          have h2 := ncCopy v hv hf v.length 0 [] (by omega) rfl
          rw [List.drop_zero, List.nil_append] at h2
          refine Ev.bind (a := (v, 0, 0, 0, 0, 0, 0, 0, [])) ?_ (Ev.now _)
          exact Ev.bind (show Ev (fun k => spec_l07CopyWishes.f k v) v from h2) (Ev.now _)
        · simp only [hb, if_false, Bool.false_eq_true]
          exact Ev.now _
    · have n2 : (v.length : Int) > 6 := by omega
      simp only [n2, if_true, h6, if_false]
      exact Ev.now _
  · have n1 : (v.length : Int) > 4096 := by omega
    simp only [n1, if_true, h, if_false]
    exact Ev.now _
theorem ncImpl (v : List S94) (hv : v.length ≤ 1048576) (hf : ∀ x, x ∈ v → x.f4.length ≤ 1048576) : Ev (fun k => impl_NewClient.f k v) (ncRes v) := by
  unfold impl_NewClient.f ncRes impl_Wish_57.f
  by_cases h : v.length ≤ 4096
  · have n1 : decide ((v.length : Int) ≤ 4096) = true := decide_eq_true (by omega)
    simp only [n1, Option.bind_some, h, if_true]
    by_cases h6 : v.length ≤ 6
    · have n2 : ¬ ((v.length : Int) > 6) := by omega
      simp only [n2, if_false, h6, if_true]
      have e : v.all (fun x => decide (x.f4.length ≤ 1048576)) = true := List.all_eq_true.mpr (fun x hx => decide_eq_true (hf x hx))
      simp only [areAllWish_WishOK.f, e, if_true, Option.bind_some]
      by_cases hb : v.all wishOf = true
      · simp only [hb, if_true]
        have h2 := ncOwn v hv hf v.length 0 [] (by omega) rfl
        rw [List.drop_zero, List.nil_append] at h2
        exact Ev.bind (show Ev (fun k => impl_ownWishes.f k v) v from h2) (Ev.now _)
      · simp only [hb, if_false, Bool.false_eq_true]
        exact Ev.now _
    · have n2 : (v.length : Int) > 6 := by omega
      simp only [n2, if_true, h6, if_false]
      exact Ev.now _
  · have n1 : decide ((v.length : Int) ≤ 4096) = false := decide_eq_false (by omega)
    simp only [n1, Option.bind_some, h, if_false, Bool.false_eq_true]
    exact Ev.now _
theorem ncShape (v : List S94) (hs : eds v ≤ 1048576) : ∃ (C : List S94) (c : Int), ncRes v = (C, 0, 0, 0, 0, 0, 0, 0, [], c) ∧ C.length ≤ 6 ∧ eds C ≤ 1048576 := by
  unfold ncRes
  by_cases h : v.length ≤ 4096
  · rw [if_pos h]
    by_cases h6 : v.length ≤ 6
    · rw [if_pos h6]
      by_cases hb : v.all wishOf = true
      · rw [if_pos hb]
        exact ⟨v, 0, rfl, h6, hs⟩
      · rw [if_neg hb]
        exact ⟨[], 1, rfl, by simp, by simp [eds]⟩
    · rw [if_neg h6]
      exact ⟨[], 6, rfl, by simp, by simp [eds]⟩
  · rw [if_neg h]
    exact ⟨[], 2, rfl, by simp, by simp [eds]⟩
theorem eds_each {l : List S94} (h : eds l ≤ 1048576) : ∀ x, x ∈ l → x.f4.length ≤ 1048576 := fun x hx => by
  have h2 : x.f4.length ≤ eds l := le_sum (f := fun x : S94 => x.f4.length) hx
  omega
theorem ncMark (C : List S94) (h6 : C.length ≤ 6) (hs : eds C ≤ 1048576) : ∃ (m : Int) (C2 : List S94) (M2 : List S74), 0 ≤ m ∧ Ev (fun k => laws_markClient.f k C [] 1) (m, C2, M2) ∧ Ev (fun k => laws_heldClient.f k C2 0 0 0 0 0 0 0 M2 1) m := by
  obtain ⟨l2, hM, hH⟩ := markWish3 C 1 (by omega) (eds_each hs) (by omega) (by omega)
  have h2 := (hH [] (by simp; omega)).1
  rw [List.nil_append] at h2
  have n1 : ¬ (1 + 4 * (C.length : Int) + 3 * (eds C : Int) < 0) := by omega
  refine ⟨1 + 4 * C.length + 3 * eds C, l2, [], by omega, ?_, ?_⟩
  · unfold laws_markClient.f
    exact Ev.bind hM (Ev.bind (a := (1 + 4 * (C.length : Int) + 3 * (eds C : Int), ([] : List S74))) (Ev.at_ (c := 1) (fun _ => rfl)) (Ev.now _))
  · unfold laws_heldClient.f
    refine Ev.bind (show Ev (fun k => laws_heldWishS.f k l2 1) _ from h2) ?_
    simp only [n1, if_false]
    refine Ev.bind (a := 1 + 4 * (C.length : Int) + 3 * (eds C : Int)) (Ev.at_ (c := 1) (fun _ => rfl)) ?_
    simp only [n1, if_false]
    exact Ev.now _
theorem ncEq (C : List S94) (h6 : C.length ≤ 6) (hs : eds C ≤ 1048576) : Ev (fun k => laws_eqClient.f k C 0 0 0 0 0 0 0 [] C 0 0 0 0 0 0 0 []) true := by
  unfold laws_eqClient.f
  refine Ev.bind (eqWishS3 C (by omega) hs) ?_
  simp only [if_true]
  refine Ev.bind (eqEntryS_ev [] (by simp)) ?_
  simp only [if_true]
  exact Ev.now _
theorem FnExactNewClient : laws_FnExactNewClient.Pure := by
  intro l0 w0
  refine Ev.rounds ?_
  unfold laws_FnExactNewClient.f
  obtain ⟨r, hr, hrs⟩ := szWishS3 l0 w0.1 w0.2
  refine Ev.bind hr ?_
  by_cases hn : r < 0
  · simp only [hn, if_true]
    exact Ev.now _
  simp only [hn, if_false]
  obtain ⟨hl, hs⟩ := hrs (by omega)
  have hl2 : (l0.map cvWish).length ≤ 1048576 := by simpa using hl
  have hs2 : eds (l0.map cvWish) ≤ 1048576 := by rw [eds_cv]; exact hs
  refine Ev.bind (toWishS3 l0 hl hs) ?_
  generalize l0.map cvWish = v at hl2 hs2
  obtain ⟨C, c, hC, h6, hsC⟩ := ncShape v hs2
  have h1 := ncSpec v hl2 (eds_each hs2)
  have h2 := ncImpl v hl2 (eds_each hs2)
  rw [hC] at h1 h2
  obtain ⟨m, C2, M2, h0, hm, hh⟩ := ncMark C h6 hsC
  obtain ⟨la, hmA, _⟩ := markWish3 v 1 hl2 (eds_each hs2) (by omega) (by omega)
  refine Ev.bind h1 (Ev.bind h2 (Ev.bind (ncEq C h6 hsC) (Ev.bind (eqWishS3 v hl2 hs2) (Ev.bind hmA (Ev.bind hm (Ev.bind hh ?_))))))
  rw [if_pos ⟨rfl, rfl, rfl, by show (0 : Int) ≤ _; omega, rfl, h0⟩]
  exact Ev.now _
end Go.Proofs.Ytjkddaokhmflbaa.Pure
end
