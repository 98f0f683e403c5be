/- Parts of the proof of the law FnExactStoreOK, joined into one text. -/
import Derived.Test.YtmkgkinhbahlmaaMFnExactStoreOK3
section
namespace Go.Proofs.Ytmkgkinhbahlmaa.Q
open Go.RowKit Go.Proofs.YtmkgkinhbahlmaaW.PrintWords Go.Proofs.YtmkgkinhbahlmaaW.PrintLast Go.Proofs.YtmkgkinhbahlmaaW.PrintMore
attribute [local go_sem] max2_int min2_int max_two min_two max_three min_three max_four min_four   -- for this text's walks alone
set_option linter.unusedVariables false
set_option linter.unusedSimpArgs false
attribute [local go_sem] bin_leq bin_gtr bin_geq
def laws_eqCommitS.l0 : Nat → List (S121) → List (S121) → Int → Option (Bool)
  | 0, _, _, _ => none
  | k + 1, x0, x1, x5 => if x5 < (x0.length : Int) then (if 0 ≤ x5 then (if x5 < (x1.length : Int) then ((laws_eqCommit.f k ((rd_T121 x0 x5).f0) ((rd_T121 x0 x5).f1) ((rd_T121 x1 x5).f0) ((rd_T121 x1 x5).f1)).bind fun t984 => (if t984 = true then (laws_eqCommitS.l0 k x0 x1 (wrap64 (x5 + 1))) else (some false))) else (none)) else (none)) else (some true)
def laws_eqCommitS.f (k : Nat) (l0 : List (S121)) (l1 : List (S121)) : Option (Bool) := if (l0.length : Int) = (l1.length : Int) then (laws_eqCommitS.l0 k l0 l1 0) else (some false)
def laws_eqCommitS.T6 : Bool × List (List Nat × List Nat) := (true, [([], []), ([], []), ([0, 1], [0, 1]), ([2], [2]), ([], []), ([], []), ([4, 5], [4, 5]), ([6], [6]), ([3, 7], [3, 7]), ([8], [8])])
def laws_eqCommitS.B6 : List Nat := [0, 0, 3, 7, 0, 0, 48, 112, 255, 511]
theorem laws_eqCommitS.tab6 : rtab .any (opsOf Try.f91 6) = laws_eqCommitS.T6 := by kernel_rfl
theorem laws_eqCommitS.bits6 : waitsOk laws_eqCommitS.T6.2 laws_eqCommitS.B6 = true := by kernel_rfl
set_option maxHeartbeats 8000000 in
set_option maxRecDepth 100000 in
theorem laws_eqCommitS.calls (k : Nat) (A0 : Option Addr) (c0 : Nat) (l0 : List (S121)) (A1 : Option Addr) (c1 : Nat) (l1 : List (S121)) (r : Bool) (w : World) (hr0 : Kd.C k121 w A0 l0.length l0) (hc0 : l0.length ≤ c0) (hr1 : Kd.C k121 w A1 l1.length l1) (hc1 : l1.length ≤ c1) (h : laws_eqCommitS.f k l0 l1 = some r) :
    Calls Try.prog 91 #[.slice A0 l0.length c0, .slice A1 l1.length c1] w fun e w' => e = .returned (.bool r) ∧ Below w.heap.size w w' := by
  have hu121 := Try.underlying121
  have HR0 := Aside0.mk hr0
  have HC0 := Aside0.mk hc0
  clear hr0 hc0
  have HR1 := Aside0.mk hr1
  have HC1 := Aside0.mk hc1
  clear hr1 hc1
  have HB := Aside0.mk (Below.refl w.heap.size w)
  have H : (if (l0.length : Int) = (l1.length : Int) then (laws_eqCommitS.l0 k l0 l1 0) else (some false)) = some r := h
  clear h
  by_cases c3 : (l0.length : Int) = (l1.length : Int)
  · rw [if_pos c3] at H
    have c3b0 : ((l0.length : Int) == (l1.length : Int)) = true := beq_iff_eq.mpr c3
    have c3b1 : ((l0.length : Int) != (l1.length : Int)) = false := bne_eq_false_iff_eq.mpr c3
    have c3b2 : (l0.length == l1.length) = true := by first | simpa using c3 | (simp at c3 ⊢; omega)
    clear c3
    have H' := Aside0.mk H
    clear H
    go_enter Try.func91, Try.ntmps91
    go_wp2
    go_loopg [5] k (fun kq v5 w' => ∃ (x5_1 : Int), v5 = .int .i64 x5_1 ∧ Aside0 (laws_eqCommitS.l0 kq l0 l1 x5_1 = some r) ∧ Aside0 (kq ≤ k) ∧ Aside0 (Below w.heap.size w w'))
    case atStart => exact ⟨(0), (by first | rfl | (simp; done) | (simp; exact isEmpty_bne_ _) | (simp [*]; done)), H', ⟨Nat.le_refl _⟩, ⟨by repeat (first | (with_reducible first | exact HB.out | apply below_alloc | apply pw_below_drewN | apply below_drew1) | exact HB.out)⟩⟩
    case round =>
      clear H'
      try clear c1
      try clear p2
      try clear c3
      try clear c3b0
      try clear c3b1
      try clear c3b2
      obtain ⟨x5_1, rfl, HA, HK1, HB⟩ := hrel
      cases gk with
      | zero => exact absurd HA.out (by simp [laws_eqCommitS.l0])
      | succ k1 =>
        have H := HA.out
        clear HA
        simp only [laws_eqCommitS.l0] at H
        by_cases c4 : x5_1 < (l0.length : Int)
        · rw [if_pos c4] at H
          have c4b0 : decide (x5_1 < (l0.length : Int)) = true := decide_eq_true c4
          clear c4
          by_cases c5 : 0 ≤ x5_1
          · rw [if_pos c5] at H
            have c5b0 : decide (0 ≤ x5_1) = true := decide_eq_true c5
            clear c5
            by_cases c6 : x5_1 < (l1.length : Int)
            · rw [if_pos c6] at H
              have c6b0 : decide (x5_1 < (l1.length : Int)) = true := decide_eq_true c6
              clear c6
              replace H := Option.bind_eq_some_iff.mp H
              obtain ⟨t984, A70, H⟩ := H
              replace H : (if t984 = true then (laws_eqCommitS.l0 k1 l0 l1 (wrap64 (x5_1 + 1))) else (some false)) = some r := H
              have A7 := Aside0.mk A70
              clear A70
              by_cases c8 : t984 = true
              · subst c8
                have H1 : (laws_eqCommitS.l0 k1 l0 l1 (wrap64 (x5_1 + 1))) = some r := by rw [if_pos rfl] at H; exact H
                clear H
                have H := H1
                clear H1
                have H' := Aside0.mk H
                clear H
                try go_wp2
                have n0_ := Aside0.mk (below_drew1 HB.out)
                clear HB
                have HB := n0_
                clear n0_
                have p982 : 0 ≤ (x5_1 : Int) := of_decide_eq_true (by first | (with_reducible assumption) | assumption)
                have q982 : x5_1 < (l0.length : Int) := of_decide_eq_true (by first | (with_reducible assumption) | assumption)
                obtain ⟨ad982, A982_0, c982_0, A982_1, c982_1, e982, hx982_0, hx982_1, hl982_0, hi982_0, hl982_1, hi982_1⟩ := at_T121 HR0.out x5_1 p982 q982
                have hw982_1 := hx982_1
                have hw982_0 := hx982_0
                cases e982
                replace hx982_0 := (HB.out.cell (World.block_lt_of_cell? w _ hx982_0)).trans hx982_0
                replace hx982_1 := (HB.out.cell (World.block_lt_of_cell? w _ hx982_1)).trans hx982_1
                have HR982_0 := Aside0.mk hi982_0
                have HC982_0 := Aside0.mk hl982_0
                clear hi982_0 hl982_0
                have HR982_1 := Aside0.mk hi982_1
                have HC982_1 := Aside0.mk hl982_1
                clear hi982_1 hl982_1
                replace p982 := eq_true p982
                replace q982 := eq_true q982
                have p983 : 0 ≤ (x5_1 : Int) := of_decide_eq_true (by first | (with_reducible assumption) | assumption)
                have q983 : x5_1 < (l1.length : Int) := of_decide_eq_true (by first | (with_reducible assumption) | assumption)
                obtain ⟨ad983, A983_0, c983_0, A983_1, c983_1, e983, hx983_0, hx983_1, hl983_0, hi983_0, hl983_1, hi983_1⟩ := at_T121 HR1.out x5_1 p983 q983
                have hw983_1 := hx983_1
                have hw983_0 := hx983_0
                cases e983
                replace hx983_0 := (HB.out.cell (World.block_lt_of_cell? w _ hx983_0)).trans hx983_0
                replace hx983_1 := (HB.out.cell (World.block_lt_of_cell? w _ hx983_1)).trans hx983_1
                have HR983_0 := Aside0.mk hi983_0
                have HC983_0 := Aside0.mk hl983_0
                clear hi983_0 hl983_0
                have HR983_1 := Aside0.mk hi983_1
                have HC983_1 := Aside0.mk hl983_1
                clear hi983_1 hl983_1
                replace p983 := eq_true p983
                replace q983 := eq_true q983
                refine start_ (n := 10) (S := fun w' => w'.cell? (ad982.add ((x5_1).toNat * 2)) = some (.slice A982_0 ((rd_T121 l0 x5_1).f0).length c982_0) ∧ w'.cell? ⟨(ad982.add ((x5_1).toNat * 2)).block, (ad982.add ((x5_1).toNat * 2)).off + 1, none⟩ = some (.slice A982_1 ((rd_T121 l0 x5_1).f1).length c982_1) ∧ w'.cell? (ad983.add ((x5_1).toNat * 2)) = some (.slice A983_0 ((rd_T121 l1 x5_1).f0).length c983_0) ∧ w'.cell? ⟨(ad983.add ((x5_1).toNat * 2)).block, (ad983.add ((x5_1).toNat * 2)).off + 1, none⟩ = some (.slice A983_1 ((rd_T121 l1 x5_1).f1).length c983_1)) (ds := []) #[false, false, false, false, false, false, false, false, false, false] (by kernel_rfl) rfl rfl ⟨((HB.out.cell (World.block_lt_of_cell? w _ hw982_0)).trans hw982_0), ((HB.out.cell (World.block_lt_of_cell? w _ hw982_1)).trans hw982_1), ((HB.out.cell (World.block_lt_of_cell? w _ hw983_0)).trans hw983_0), ((HB.out.cell (World.block_lt_of_cell? w _ hw983_1)).trans hw983_1)⟩ (fun hHeld => ?_); refine with_tabW laws_eqCommitS.tab6 laws_eqCommitS.bits6 (fun HT_ HW_ => ?_)
                generalize wr.drew = w9 at HB HR982_0 HR982_1 HR983_0 HR983_1 hx982_0 hx982_1 hx983_0 hx983_1 hHeld ⊢
                refine pure_ (i := 0) (N := some 17) (v := ?_) (a' := ?_) #[true, false, false, false, false, false, false, false, false, false] rfl rfl (any_of HT_.out (by kernel_rfl)) (fun _ _ _ h => h) (Or.inl ⟨by rfl, ?_⟩) ?_ ?_
                rotate_left
                · intro w'
                  go_simp
                  with_reducible rfl
                rotate_left
                · simp only [Act.put, List.setIfInBounds_toArray, List.set_cons_zero, List.set_cons_succ, i64_w, i32_w]
                  rfl
                refine pure_ (i := 1) (N := some 18) (v := ?_) (a' := ?_) #[true, true, false, false, false, false, false, false, false, false] rfl rfl (any_of HT_.out (by kernel_rfl)) (fun _ _ _ h => h) (Or.inl ⟨by rfl, ?_⟩) ?_ ?_
                rotate_left
                · intro w'
                  go_simp
                  with_reducible rfl
                rotate_left
                · simp only [Act.put, List.setIfInBounds_toArray, List.set_cons_zero, List.set_cons_succ, i64_w, i32_w]
                  rfl
                refine pure_ (i := 2) (N := some 19) (v := ?_) (a' := ?_) #[true, true, true, false, false, false, false, false, false, false] rfl rfl (any_of HT_.out (by kernel_rfl)) (fun _ _ _ h => h) (Or.inl ⟨by rfl, ?_⟩) ?_ ?_
                rotate_left
                · intro w'
                  go_simp
                  with_reducible rfl
                rotate_left
                · simp only [Act.put, List.setIfInBounds_toArray, List.set_cons_zero, List.set_cons_succ, i64_w, i32_w]
                  rfl
                refine pure_ (i := 4) (N := some 21) (v := ?_) (a' := ?_) #[true, true, true, false, true, false, false, false, false, false] rfl rfl (any_of HT_.out (by kernel_rfl)) (fun _ _ _ h => h) (Or.inl ⟨by rfl, ?_⟩) ?_ ?_
                rotate_left
                · intro w'
                  go_simp
                  with_reducible rfl
                rotate_left
                · simp only [Act.put, List.setIfInBounds_toArray, List.set_cons_zero, List.set_cons_succ, i64_w, i32_w]
                  rfl
                refine pure_ (i := 5) (N := some 22) (v := ?_) (a' := ?_) #[true, true, true, false, true, true, false, false, false, false] rfl rfl (any_of HT_.out (by kernel_rfl)) (fun _ _ _ h => h) (Or.inl ⟨by rfl, ?_⟩) ?_ ?_
                rotate_left
                · intro w'
                  go_simp
                  with_reducible rfl
                rotate_left
                · simp only [Act.put, List.setIfInBounds_toArray, List.set_cons_zero, List.set_cons_succ, i64_w, i32_w]
                  rfl
                refine pure_ (i := 6) (N := some 23) (v := ?_) (a' := ?_) #[true, true, true, false, true, true, true, false, false, false] rfl rfl (any_of HT_.out (by kernel_rfl)) (fun _ _ _ h => h) (Or.inl ⟨by rfl, ?_⟩) ?_ ?_
                rotate_left
                · intro w'
                  go_simp
                  with_reducible rfl
                rotate_left
                · simp only [Act.put, List.setIfInBounds_toArray, List.set_cons_zero, List.set_cons_succ, i64_w, i32_w]
                  rfl
                refine take_ (i := 3) (N := some 20) (v := ?_) (a' := ?_) #[true, true, true, true, true, true, true, false, false, false] rfl rfl (take_ofW HT_.out HW_.out (by kernel_rfl)) (fun _ _ _ h => h) (Or.inl ⟨by rfl, ?_⟩) hHeld ?_ ?_
                rotate_left
                · rintro w' ⟨s0, s1, s2, s3⟩
                  go_simp
                  with_reducible rfl
                rotate_left
                · simp only [Act.put, List.setIfInBounds_toArray, List.set_cons_zero, List.set_cons_succ, i64_w, i32_w]
                  rfl
                refine take_ (i := 7) (N := some 24) (v := ?_) (a' := ?_) #[true, true, true, true, true, true, true, true, false, false] rfl rfl (take_ofW HT_.out HW_.out (by kernel_rfl)) (fun _ _ _ h => h) (Or.inl ⟨by rfl, ?_⟩) hHeld ?_ ?_
                rotate_left
                · rintro w' ⟨s0, s1, s2, s3⟩
                  go_simp
                  with_reducible rfl
                rotate_left
                · simp only [Act.put, List.setIfInBounds_toArray, List.set_cons_zero, List.set_cons_succ, i64_w, i32_w]
                  rfl
                refine one_ (i := 8) (N := some 25) #[true, true, true, true, true, true, true, true, true, false] rfl rfl (one_of HT_.out (by kernel_rfl)) (by decide) (fun K hK => ?_)
                refine goes_ Try.func96 (by kernel_rfl) rfl #[.agg #[.slice A982_0 ((rd_T121 l0 x5_1).f0).length c982_0, .slice A982_1 ((rd_T121 l0 x5_1).f1).length c982_1], .agg #[.slice A983_0 ((rd_T121 l1 x5_1).f0).length c983_0, .slice A983_1 ((rd_T121 l1 x5_1).f1).length c983_1]] (by rfl) rfl rfl (by (try simp only [List.map_toArray, List.map_cons, List.map_nil]); first | done | rfl | (simp only [List.length_drop, List.length_take]; rfl)) ?_
                with_reducible refine (laws_eqCommit.calls k1 _ _ ((rd_T121 l0 x5_1).f0) _ _ ((rd_T121 l0 x5_1).f1) _ _ ((rd_T121 l1 x5_1).f0) _ _ ((rd_T121 l1 x5_1).f1) true _ ?side1 ?side2 ?side3 ?side4 ?side5 ?side6 ?side7 ?side8 A7.out).mono ?_
                (case side1 => repeat (first | exact (Kd.C_below HR982_0.out HB.out) | (with_reducible refine Kd.C_alloc ?_ _) | (with_reducible refine Kd.C_drewN ?_ _) | (with_reducible refine Kd.C_drew ?_)))
                (case side2 => exact HC982_0.out)
                (case side3 => repeat (first | exact (Kd.C_below HR982_1.out HB.out) | (with_reducible refine Kd.C_alloc ?_ _) | (with_reducible refine Kd.C_drewN ?_ _) | (with_reducible refine Kd.C_drew ?_)))
                (case side4 => exact HC982_1.out)
                (case side5 => repeat (first | exact (Kd.C_below HR983_0.out HB.out) | (with_reducible refine Kd.C_alloc ?_ _) | (with_reducible refine Kd.C_drewN ?_ _) | (with_reducible refine Kd.C_drew ?_)))
                (case side6 => exact HC983_0.out)
                (case side7 => repeat (first | exact (Kd.C_below HR983_1.out HB.out) | (with_reducible refine Kd.C_alloc ?_ _) | (with_reducible refine Kd.C_drewN ?_ _) | (with_reducible refine Kd.C_drew ?_)))
                (case side8 => exact HC983_1.out)
                rintro e w10 ⟨rfl, hb⟩
                refine ⟨_, rfl, ?_⟩
                have n0_ := Aside0.mk (below_step (by repeat (first | (with_reducible first | exact HB.out | apply below_alloc | apply pw_below_drewN | apply below_drew1) | exact HB.out)) hb)
                clear HB
                have HB := n0_
                clear n0_
                (try clear hb)
                (try clear hb2)
                (try clear hk)
                (try clear hi)
                refine hK.out _ _ ⟨((HB.out.cell (World.block_lt_of_cell? w _ hw982_0)).trans hw982_0), ((HB.out.cell (World.block_lt_of_cell? w _ hw982_1)).trans hw982_1), ((HB.out.cell (World.block_lt_of_cell? w _ hw983_0)).trans hw983_0), ((HB.out.cell (World.block_lt_of_cell? w _ hw983_1)).trans hw983_1)⟩ (fun hHeld => ?_)
                clear hK K
                refine norm_ (a' := ?_) ?_ ?_
                rotate_left
                · show Act.put _ (some 25) _ = _
                  simp only [Act.put, List.setIfInBounds_toArray, List.set_cons_zero, List.set_cons_succ, i64_w, i32_w]
                  rfl
                refine pure_ (i := 9) (N := some 26) (v := ?_) (a' := ?_) #[true, true, true, true, true, true, true, true, true, true] rfl rfl (any_of HT_.out (by kernel_rfl)) (fun _ _ _ h => h) (Or.inl ⟨by rfl, ?_⟩) ?_ ?_
                rotate_left
                · intro w'
                  go_simp
                  with_reducible rfl
                rotate_left
                · simp only [Act.put, List.setIfInBounds_toArray, List.set_cons_zero, List.set_cons_succ, i64_w, i32_w]
                  rfl
                refine done_ (done_of HT_.out (by kernel_rfl)) ?_
                try go_wp2
                go_roundg k1
                case measure => have := HK1.out; omega
                case rel => exact ⟨(wrap64 (x5_1 + 1)), (by first | rfl | (simp; done) | (simp; exact isEmpty_bne_ _) | (simp [*]; done)), H', ⟨by have := HK1.out; omega⟩, ⟨by repeat (first | (with_reducible first | exact HB.out | apply below_alloc | apply pw_below_drewN | apply below_drew1) | exact HB.out)⟩⟩
              · replace c8 := Bool.eq_false_iff.mpr c8
                subst c8
                have H1 : (some false) = some r := by rw [if_neg (show ¬ (false = true) by decide)] at H; exact H
                clear H
                have H := H1
                clear H1
                obtain rfl := Option.some.inj H
                try go_wp2
                have n0_ := Aside0.mk (below_drew1 HB.out)
                clear HB
                have HB := n0_
                clear n0_
                have p982 : 0 ≤ (x5_1 : Int) := of_decide_eq_true (by first | (with_reducible assumption) | assumption)
                have q982 : x5_1 < (l0.length : Int) := of_decide_eq_true (by first | (with_reducible assumption) | assumption)
                obtain ⟨ad982, A982_0, c982_0, A982_1, c982_1, e982, hx982_0, hx982_1, hl982_0, hi982_0, hl982_1, hi982_1⟩ := at_T121 HR0.out x5_1 p982 q982
                have hw982_1 := hx982_1
                have hw982_0 := hx982_0
                cases e982
                replace hx982_0 := (HB.out.cell (World.block_lt_of_cell? w _ hx982_0)).trans hx982_0
                replace hx982_1 := (HB.out.cell (World.block_lt_of_cell? w _ hx982_1)).trans hx982_1
                have HR982_0 := Aside0.mk hi982_0
                have HC982_0 := Aside0.mk hl982_0
                clear hi982_0 hl982_0
                have HR982_1 := Aside0.mk hi982_1
                have HC982_1 := Aside0.mk hl982_1
                clear hi982_1 hl982_1
                replace p982 := eq_true p982
                replace q982 := eq_true q982
                have p983 : 0 ≤ (x5_1 : Int) := of_decide_eq_true (by first | (with_reducible assumption) | assumption)
                have q983 : x5_1 < (l1.length : Int) := of_decide_eq_true (by first | (with_reducible assumption) | assumption)
                obtain ⟨ad983, A983_0, c983_0, A983_1, c983_1, e983, hx983_0, hx983_1, hl983_0, hi983_0, hl983_1, hi983_1⟩ := at_T121 HR1.out x5_1 p983 q983
                have hw983_1 := hx983_1
                have hw983_0 := hx983_0
                cases e983
                replace hx983_0 := (HB.out.cell (World.block_lt_of_cell? w _ hx983_0)).trans hx983_0
                replace hx983_1 := (HB.out.cell (World.block_lt_of_cell? w _ hx983_1)).trans hx983_1
                have HR983_0 := Aside0.mk hi983_0
                have HC983_0 := Aside0.mk hl983_0
                clear hi983_0 hl983_0
                have HR983_1 := Aside0.mk hi983_1
                have HC983_1 := Aside0.mk hl983_1
                clear hi983_1 hl983_1
                replace p983 := eq_true p983
                replace q983 := eq_true q983
                refine start_ (n := 10) (S := fun w' => w'.cell? (ad982.add ((x5_1).toNat * 2)) = some (.slice A982_0 ((rd_T121 l0 x5_1).f0).length c982_0) ∧ w'.cell? ⟨(ad982.add ((x5_1).toNat * 2)).block, (ad982.add ((x5_1).toNat * 2)).off + 1, none⟩ = some (.slice A982_1 ((rd_T121 l0 x5_1).f1).length c982_1) ∧ w'.cell? (ad983.add ((x5_1).toNat * 2)) = some (.slice A983_0 ((rd_T121 l1 x5_1).f0).length c983_0) ∧ w'.cell? ⟨(ad983.add ((x5_1).toNat * 2)).block, (ad983.add ((x5_1).toNat * 2)).off + 1, none⟩ = some (.slice A983_1 ((rd_T121 l1 x5_1).f1).length c983_1)) (ds := []) #[false, false, false, false, false, false, false, false, false, false] (by kernel_rfl) rfl rfl ⟨((HB.out.cell (World.block_lt_of_cell? w _ hw982_0)).trans hw982_0), ((HB.out.cell (World.block_lt_of_cell? w _ hw982_1)).trans hw982_1), ((HB.out.cell (World.block_lt_of_cell? w _ hw983_0)).trans hw983_0), ((HB.out.cell (World.block_lt_of_cell? w _ hw983_1)).trans hw983_1)⟩ (fun hHeld => ?_); refine with_tabW laws_eqCommitS.tab6 laws_eqCommitS.bits6 (fun HT_ HW_ => ?_)
                generalize wr.drew = w11 at HB HR982_0 HR982_1 HR983_0 HR983_1 hx982_0 hx982_1 hx983_0 hx983_1 hHeld ⊢
                refine pure_ (i := 0) (N := some 17) (v := ?_) (a' := ?_) #[true, false, false, false, false, false, false, false, false, false] rfl rfl (any_of HT_.out (by kernel_rfl)) (fun _ _ _ h => h) (Or.inl ⟨by rfl, ?_⟩) ?_ ?_
                rotate_left
                · intro w'
                  go_simp
                  with_reducible rfl
                rotate_left
                · simp only [Act.put, List.setIfInBounds_toArray, List.set_cons_zero, List.set_cons_succ, i64_w, i32_w]
                  rfl
                refine pure_ (i := 1) (N := some 18) (v := ?_) (a' := ?_) #[true, true, false, false, false, false, false, false, false, false] rfl rfl (any_of HT_.out (by kernel_rfl)) (fun _ _ _ h => h) (Or.inl ⟨by rfl, ?_⟩) ?_ ?_
                rotate_left
                · intro w'
                  go_simp
                  with_reducible rfl
                rotate_left
                · simp only [Act.put, List.setIfInBounds_toArray, List.set_cons_zero, List.set_cons_succ, i64_w, i32_w]
                  rfl
                refine pure_ (i := 2) (N := some 19) (v := ?_) (a' := ?_) #[true, true, true, false, false, false, false, false, false, false] rfl rfl (any_of HT_.out (by kernel_rfl)) (fun _ _ _ h => h) (Or.inl ⟨by rfl, ?_⟩) ?_ ?_
                rotate_left
                · intro w'
                  go_simp
                  with_reducible rfl
                rotate_left
                · simp only [Act.put, List.setIfInBounds_toArray, List.set_cons_zero, List.set_cons_succ, i64_w, i32_w]
                  rfl
                refine pure_ (i := 4) (N := some 21) (v := ?_) (a' := ?_) #[true, true, true, false, true, false, false, false, false, false] rfl rfl (any_of HT_.out (by kernel_rfl)) (fun _ _ _ h => h) (Or.inl ⟨by rfl, ?_⟩) ?_ ?_
                rotate_left
                · intro w'
                  go_simp
                  with_reducible rfl
                rotate_left
                · simp only [Act.put, List.setIfInBounds_toArray, List.set_cons_zero, List.set_cons_succ, i64_w, i32_w]
                  rfl
                refine pure_ (i := 5) (N := some 22) (v := ?_) (a' := ?_) #[true, true, true, false, true, true, false, false, false, false] rfl rfl (any_of HT_.out (by kernel_rfl)) (fun _ _ _ h => h) (Or.inl ⟨by rfl, ?_⟩) ?_ ?_
                rotate_left
                · intro w'
                  go_simp
                  with_reducible rfl
                rotate_left
                · simp only [Act.put, List.setIfInBounds_toArray, List.set_cons_zero, List.set_cons_succ, i64_w, i32_w]
                  rfl
                refine pure_ (i := 6) (N := some 23) (v := ?_) (a' := ?_) #[true, true, true, false, true, true, true, false, false, false] rfl rfl (any_of HT_.out (by kernel_rfl)) (fun _ _ _ h => h) (Or.inl ⟨by rfl, ?_⟩) ?_ ?_
                rotate_left
                · intro w'
                  go_simp
                  with_reducible rfl
                rotate_left
                · simp only [Act.put, List.setIfInBounds_toArray, List.set_cons_zero, List.set_cons_succ, i64_w, i32_w]
                  rfl
                refine take_ (i := 3) (N := some 20) (v := ?_) (a' := ?_) #[true, true, true, true, true, true, true, false, false, false] rfl rfl (take_ofW HT_.out HW_.out (by kernel_rfl)) (fun _ _ _ h => h) (Or.inl ⟨by rfl, ?_⟩) hHeld ?_ ?_
                rotate_left
                · rintro w' ⟨s0, s1, s2, s3⟩
                  go_simp
                  with_reducible rfl
                rotate_left
                · simp only [Act.put, List.setIfInBounds_toArray, List.set_cons_zero, List.set_cons_succ, i64_w, i32_w]
                  rfl
                refine take_ (i := 7) (N := some 24) (v := ?_) (a' := ?_) #[true, true, true, true, true, true, true, true, false, false] rfl rfl (take_ofW HT_.out HW_.out (by kernel_rfl)) (fun _ _ _ h => h) (Or.inl ⟨by rfl, ?_⟩) hHeld ?_ ?_
                rotate_left
                · rintro w' ⟨s0, s1, s2, s3⟩
                  go_simp
                  with_reducible rfl
                rotate_left
                · simp only [Act.put, List.setIfInBounds_toArray, List.set_cons_zero, List.set_cons_succ, i64_w, i32_w]
                  rfl
                refine one_ (i := 8) (N := some 25) #[true, true, true, true, true, true, true, true, true, false] rfl rfl (one_of HT_.out (by kernel_rfl)) (by decide) (fun K hK => ?_)
                refine goes_ Try.func96 (by kernel_rfl) rfl #[.agg #[.slice A982_0 ((rd_T121 l0 x5_1).f0).length c982_0, .slice A982_1 ((rd_T121 l0 x5_1).f1).length c982_1], .agg #[.slice A983_0 ((rd_T121 l1 x5_1).f0).length c983_0, .slice A983_1 ((rd_T121 l1 x5_1).f1).length c983_1]] (by rfl) rfl rfl (by (try simp only [List.map_toArray, List.map_cons, List.map_nil]); first | done | rfl | (simp only [List.length_drop, List.length_take]; rfl)) ?_
                with_reducible refine (laws_eqCommit.calls k1 _ _ ((rd_T121 l0 x5_1).f0) _ _ ((rd_T121 l0 x5_1).f1) _ _ ((rd_T121 l1 x5_1).f0) _ _ ((rd_T121 l1 x5_1).f1) false _ ?side1 ?side2 ?side3 ?side4 ?side5 ?side6 ?side7 ?side8 A7.out).mono ?_
                (case side1 => repeat (first | exact (Kd.C_below HR982_0.out HB.out) | (with_reducible refine Kd.C_alloc ?_ _) | (with_reducible refine Kd.C_drewN ?_ _) | (with_reducible refine Kd.C_drew ?_)))
                (case side2 => exact HC982_0.out)
                (case side3 => repeat (first | exact (Kd.C_below HR982_1.out HB.out) | (with_reducible refine Kd.C_alloc ?_ _) | (with_reducible refine Kd.C_drewN ?_ _) | (with_reducible refine Kd.C_drew ?_)))
                (case side4 => exact HC982_1.out)
                (case side5 => repeat (first | exact (Kd.C_below HR983_0.out HB.out) | (with_reducible refine Kd.C_alloc ?_ _) | (with_reducible refine Kd.C_drewN ?_ _) | (with_reducible refine Kd.C_drew ?_)))
                (case side6 => exact HC983_0.out)
                (case side7 => repeat (first | exact (Kd.C_below HR983_1.out HB.out) | (with_reducible refine Kd.C_alloc ?_ _) | (with_reducible refine Kd.C_drewN ?_ _) | (with_reducible refine Kd.C_drew ?_)))
                (case side8 => exact HC983_1.out)
                rintro e w12 ⟨rfl, hb⟩
                refine ⟨_, rfl, ?_⟩
                have n0_ := Aside0.mk (below_step (by repeat (first | (with_reducible first | exact HB.out | apply below_alloc | apply pw_below_drewN | apply below_drew1) | exact HB.out)) hb)
                clear HB
                have HB := n0_
                clear n0_
                (try clear hb)
                (try clear hb2)
                (try clear hk)
                (try clear hi)
                refine hK.out _ _ ⟨((HB.out.cell (World.block_lt_of_cell? w _ hw982_0)).trans hw982_0), ((HB.out.cell (World.block_lt_of_cell? w _ hw982_1)).trans hw982_1), ((HB.out.cell (World.block_lt_of_cell? w _ hw983_0)).trans hw983_0), ((HB.out.cell (World.block_lt_of_cell? w _ hw983_1)).trans hw983_1)⟩ (fun hHeld => ?_)
                clear hK K
                refine norm_ (a' := ?_) ?_ ?_
                rotate_left
                · show Act.put _ (some 25) _ = _
                  simp only [Act.put, List.setIfInBounds_toArray, List.set_cons_zero, List.set_cons_succ, i64_w, i32_w]
                  rfl
                refine pure_ (i := 9) (N := some 26) (v := ?_) (a' := ?_) #[true, true, true, true, true, true, true, true, true, true] rfl rfl (any_of HT_.out (by kernel_rfl)) (fun _ _ _ h => h) (Or.inl ⟨by rfl, ?_⟩) ?_ ?_
                rotate_left
                · intro w'
                  go_simp
                  with_reducible rfl
                rotate_left
                · simp only [Act.put, List.setIfInBounds_toArray, List.set_cons_zero, List.set_cons_succ, i64_w, i32_w]
                  rfl
                refine done_ (done_of HT_.out (by kernel_rfl)) ?_
                try go_wp2
                go_ret
                exact ⟨by first | rfl | (simp [errW_none, errW_some] <;> rfl) | (simp [*, errW_none, errW_some] <;> rfl), by repeat (first | (with_reducible first | exact HB.out | apply below_alloc | apply pw_below_drewN | apply below_drew1) | exact HB.out)⟩
            · rw [if_neg c6] at H
              exact absurd H (by simp)
          · rw [if_neg c5] at H
            exact absurd H (by simp)
        · rw [if_neg c4] at H
          have c4b0 : decide (x5_1 < (l0.length : Int)) = false := decide_eq_false c4
          clear c4
          obtain rfl := Option.some.inj H
          go_wp2
          go_ret
          exact ⟨by first | rfl | (simp [errW_none, errW_some] <;> rfl) | (simp [*, errW_none, errW_some] <;> rfl), by repeat (first | (with_reducible first | exact HB.out | apply below_alloc | apply pw_below_drewN | apply below_drew1) | exact HB.out)⟩
  · rw [if_neg c3] at H
    have c3b0 : ((l0.length : Int) == (l1.length : Int)) = false := beq_eq_false_iff_ne.mpr c3
    have c3b1 : ((l0.length : Int) != (l1.length : Int)) = true := bne_iff_ne.mpr c3
    have c3b2 : (l0.length == l1.length) = false := by first | simpa using c3 | (simp at c3 ⊢; omega)
    obtain rfl := Option.some.inj H
    go_enter Try.func91, Try.ntmps91
    go_wp2
    go_ret
    exact ⟨by first | rfl | (simp [errW_none, errW_some] <;> rfl) | (simp [*, errW_none, errW_some] <;> rfl), by repeat (first | (with_reducible first | exact HB.out | apply below_alloc | apply pw_below_drewN | apply below_drew1) | exact HB.out)⟩
end Go.Proofs.Ytmkgkinhbahlmaa.Q
end

section
namespace Go.Proofs.Ytmkgkinhbahlmaa.Q
open Go.RowKit Go.Proofs.YtmkgkinhbahlmaaW.PrintWords Go.Proofs.YtmkgkinhbahlmaaW.PrintLast Go.Proofs.YtmkgkinhbahlmaaW.PrintMore
attribute [local go_sem] max2_int min2_int max_two min_two max_three min_three max_four min_four   -- for this text's walks alone
set_option linter.unusedVariables false
set_option linter.unusedSimpArgs false
attribute [local go_sem] bin_leq bin_gtr bin_geq
def laws_FnExactStoreOK.f (k : Nat) (l0 : List (S116)) : Option (Bool) := (laws_szCommitS.f k l0 1048576).bind fun t985 => (if t985 < 0 then (some true) else ((laws_toCommitS.f k l0).bind fun t986 => ((spec_StoreOK.f k t986).bind fun t989 => ((laws_toCommitS.f k l0).bind fun t990 => ((impl_StoreOK.f k t990).bind fun t993 => (if (t993 != t989) = true then (some false) else ((laws_toCommitS.f k l0).bind fun t994 => ((laws_eqCommitS.f k t990 t994).bind fun t997 => (if t997 = true then (some true) else (some false))))))))))
set_option maxHeartbeats 8000000 in
set_option maxRecDepth 100000 in
theorem laws_FnExactStoreOK.calls (k : Nat) (A0 : Option Addr) (c0 : Nat) (l0 : List (S116)) (w : World) (hr0 : Kd.C k116 w A0 l0.length l0) (hc0 : l0.length ≤ c0) (h : laws_FnExactStoreOK.f k l0 = some true) :
    Calls Try.prog 18 #[.slice A0 l0.length c0] w fun e w' => e = .returned (.bool true) ∧ Below w.heap.size w w' := by
  have HR0 := Aside0.mk hr0
  have HC0 := Aside0.mk hc0
  clear hr0 hc0
  have HB := Aside0.mk (Below.refl w.heap.size w)
  have H : ((laws_szCommitS.f k l0 1048576).bind fun t985 => (if t985 < 0 then (some true) else ((laws_toCommitS.f k l0).bind fun t986 => ((spec_StoreOK.f k t986).bind fun t989 => ((laws_toCommitS.f k l0).bind fun t990 => ((impl_StoreOK.f k t990).bind fun t993 => (if (t993 != t989) = true then (some false) else ((laws_toCommitS.f k l0).bind fun t994 => ((laws_eqCommitS.f k t990 t994).bind fun t997 => (if t997 = true then (some true) else (some false))))))))))) = some true := h
  clear h
  replace H := Option.bind_eq_some_iff.mp H
  obtain ⟨t985, A20, H⟩ := H
  replace H : (if t985 < 0 then (some true) else ((laws_toCommitS.f k l0).bind fun t986 => ((spec_StoreOK.f k t986).bind fun t989 => ((laws_toCommitS.f k l0).bind fun t990 => ((impl_StoreOK.f k t990).bind fun t993 => (if (t993 != t989) = true then (some false) else ((laws_toCommitS.f k l0).bind fun t994 => ((laws_eqCommitS.f k t990 t994).bind fun t997 => (if t997 = true then (some true) else (some false)))))))))) = some true := H
  have A2 := Aside0.mk A20
  clear A20
  by_cases c3 : t985 < 0
  · rw [if_pos c3] at H
    have c3b0 : decide (t985 < 0) = true := decide_eq_true c3
    clear c3
    clear H
    go_enter Try.func18, Try.ntmps18
    go_wp2_with (first | ((with_reducible refine gate_callee (f := 87) rfl ?_); refine goesL_ (some 9) rfl rfl Try.func87 (by kernel_rfl) rfl #[.slice A0 l0.length c0, .int .i64 1048576] rfl (by (try simp only [List.map_toArray, List.map_cons, List.map_nil]); first | done | rfl | (simp only [List.length_drop, List.length_take]; rfl)) ?_; (with_reducible refine (laws_szCommitS.calls k _ _ l0 1048576 t985 _ ?side1 ?side2 A2.out).mono ?_); (case side1 => repeat (first | exact HR0.out | (with_reducible refine Kd.C_alloc ?_ _) | (with_reducible refine Kd.C_drewN ?_ _) | (with_reducible refine Kd.C_drew ?_))); (case side2 => exact HC0.out); rintro e w4 ⟨rfl, hb⟩; refine ⟨_, rfl, ?_⟩; have n0_ := Aside0.mk (below_step (by repeat (first | (with_reducible first | exact HB.out | apply below_alloc | apply pw_below_drewN | apply below_drew1) | exact HB.out)) hb); clear HB; have HB := n0_; clear n0_; (try clear hb); (try clear hb2); (try clear hk); (try clear hi)))
    go_ret
    exact ⟨by first | rfl | (simp [errW_none, errW_some] <;> rfl) | (simp [*, errW_none, errW_some] <;> rfl), by repeat (first | (with_reducible first | exact HB.out | apply below_alloc | apply pw_below_drewN | apply below_drew1) | exact HB.out)⟩
  · rw [if_neg c3] at H
    have c3b0 : decide (t985 < 0) = false := decide_eq_false c3
    clear c3
    replace H := Option.bind_eq_some_iff.mp H
    obtain ⟨t986, A50, H⟩ := H
    replace H : ((spec_StoreOK.f k t986).bind fun t989 => ((laws_toCommitS.f k l0).bind fun t990 => ((impl_StoreOK.f k t990).bind fun t993 => (if (t993 != t989) = true then (some false) else ((laws_toCommitS.f k l0).bind fun t994 => ((laws_eqCommitS.f k t990 t994).bind fun t997 => (if t997 = true then (some true) else (some false)))))))) = some true := H
    have A5 := Aside0.mk A50
    clear A50
    replace H := Option.bind_eq_some_iff.mp H
    obtain ⟨t989, A60, H⟩ := H
    replace H : ((laws_toCommitS.f k l0).bind fun t990 => ((impl_StoreOK.f k t990).bind fun t993 => (if (t993 != t989) = true then (some false) else ((laws_toCommitS.f k l0).bind fun t994 => ((laws_eqCommitS.f k t990 t994).bind fun t997 => (if t997 = true then (some true) else (some false))))))) = some true := H
    have A6 := Aside0.mk A60
    clear A60
    replace H := Option.bind_eq_some_iff.mp H
    obtain ⟨t990, A70, H⟩ := H
    replace H : ((impl_StoreOK.f k t990).bind fun t993 => (if (t993 != t989) = true then (some false) else ((laws_toCommitS.f k l0).bind fun t994 => ((laws_eqCommitS.f k t990 t994).bind fun t997 => (if t997 = true then (some true) else (some false)))))) = some true := H
    have A7 := Aside0.mk A70
    clear A70
    replace H := Option.bind_eq_some_iff.mp H
    obtain ⟨t993, A80, H⟩ := H
    replace H : (if (t993 != t989) = true then (some false) else ((laws_toCommitS.f k l0).bind fun t994 => ((laws_eqCommitS.f k t990 t994).bind fun t997 => (if t997 = true then (some true) else (some false))))) = some true := H
    have A8 := Aside0.mk A80
    clear A80
    by_cases c9 : (t993 != t989) = true
    · rw [if_pos c9] at H
      exact absurd H (by simp)
    · rw [if_neg c9] at H
      have c9b0 : (t993 != t989) = false := by simpa using c9
      (try (have c9b1 : decide (t993 = t989) = true := by simpa using c9))
      (try (have c9b2 : (t993 == t989) = true := by simpa using c9))
      clear c9
      replace H := Option.bind_eq_some_iff.mp H
      obtain ⟨t994, A170, H⟩ := H
      replace H : ((laws_eqCommitS.f k t990 t994).bind fun t997 => (if t997 = true then (some true) else (some false))) = some true := H
      have A17 := Aside0.mk A170
      clear A170
      replace H := Option.bind_eq_some_iff.mp H
      obtain ⟨t997, A180, H⟩ := H
      replace H : (if t997 = true then (some true) else (some false)) = some true := H
      have A18 := Aside0.mk A180
      clear A180
      by_cases c19 : t997 = true
      · subst c19
        have H1 : (some true) = some true := rfl
        clear H
        have H := H1
        clear H1
        clear H
        go_enter Try.func18, Try.ntmps18
        go_wp2_with (first | ((with_reducible refine gate_callee (f := 87) rfl ?_); refine goesL_ (some 9) rfl rfl Try.func87 (by kernel_rfl) rfl #[.slice A0 l0.length c0, .int .i64 1048576] rfl (by (try simp only [List.map_toArray, List.map_cons, List.map_nil]); first | done | rfl | (simp only [List.length_drop, List.length_take]; rfl)) ?_; (with_reducible refine (laws_szCommitS.calls k _ _ l0 1048576 t985 _ ?side1 ?side2 A2.out).mono ?_); (case side1 => repeat (first | exact HR0.out | (with_reducible refine Kd.C_alloc ?_ _) | (with_reducible refine Kd.C_drewN ?_ _) | (with_reducible refine Kd.C_drew ?_))); (case side2 => exact HC0.out); rintro e w20 ⟨rfl, hb⟩; refine ⟨_, rfl, ?_⟩; have n0_ := Aside0.mk (below_step (by repeat (first | (with_reducible first | exact HB.out | apply below_alloc | apply pw_below_drewN | apply below_drew1) | exact HB.out)) hb); clear HB; have HB := n0_; clear n0_; (try clear hb); (try clear hb2); (try clear hk); (try clear hi)) | ((with_reducible refine gate_callee (f := 89) rfl ?_); refine goesL_ (some 13) rfl rfl Try.func89 (by kernel_rfl) rfl #[.slice A0 l0.length c0] rfl (by (try simp only [List.map_toArray, List.map_cons, List.map_nil]); first | done | rfl | (simp only [List.length_drop, List.length_take]; rfl)) ?_; (with_reducible refine (laws_toCommitS.calls k _ _ l0 t986 _ ?side1 ?side2 A5.out).mono ?_); (case side1 => repeat (first | exact (Kd.C_below HR0.out HB.out) | (with_reducible refine Kd.C_alloc ?_ _) | (with_reducible refine Kd.C_drewN ?_ _) | (with_reducible refine Kd.C_drew ?_))); (case side2 => exact HC0.out); rintro e w21 ⟨v987, rfl, ho0, hb⟩; refine ⟨_, rfl, ?_⟩; have n0_ := Aside0.mk (Kd.S_lower ho0 (below_size (by repeat (first | (with_reducible first | exact HB.out | apply below_alloc | apply pw_below_drewN | apply below_drew1) | exact HB.out)))); have n1_ := Aside0.mk (below_step (by repeat (first | (with_reducible first | exact HB.out | apply below_alloc | apply pw_below_drewN | apply below_drew1) | exact HB.out)) hb); clear HB; have HO988 := n0_; have HB := n1_; clear n0_ n1_; (try clear hb); (try clear hb2); (try clear hk); (try clear hi); (try clear ho0); obtain ⟨Ao22, co22, eo22⟩ := Kd.S_slice HO988.out; subst eo22) | ((with_reducible refine gate_callee (f := 88) rfl ?_); refine goesL_ (some 14) rfl rfl Try.func88 (by kernel_rfl) rfl #[.slice Ao22 t986.length co22] rfl (by (try simp only [List.map_toArray, List.map_cons, List.map_nil]); first | done | rfl | (simp only [List.length_drop, List.length_take]; rfl)) ?_; (with_reducible refine (spec_StoreOK.calls k _ _ t986 t989 _ ?side1 ?side2 A6.out).mono ?_); (case side1 => repeat (first | exact (Kd.S_reads' HO988.out).2.2 | (with_reducible refine Kd.C_alloc ?_ _) | (with_reducible refine Kd.C_drewN ?_ _) | (with_reducible refine Kd.C_drew ?_))); (case side2 => exact (Kd.S_reads' HO988.out).2.1); rintro e w23 ⟨rfl, hb⟩; refine ⟨_, rfl, ?_⟩; have n0_ := Aside0.mk (Kd.S_below (by (with_reducible repeat (first | apply Kd.S_alloc | apply Kd.S_drewN | apply Kd.S_drew)); exact HO988.out) hb); have n1_ := Aside0.mk (below_step (by repeat (first | (with_reducible first | exact HB.out | apply below_alloc | apply pw_below_drewN | apply below_drew1) | exact HB.out)) hb); clear HO988; clear HB; have HO988 := n0_; have HB := n1_; clear n0_ n1_; (try clear hb); (try clear hb2); (try clear hk); (try clear hi)) | ((with_reducible refine gate_callee (f := 89) rfl ?_); refine goesL_ (some 16) rfl rfl Try.func89 (by kernel_rfl) rfl #[.slice A0 l0.length c0] rfl (by (try simp only [List.map_toArray, List.map_cons, List.map_nil]); first | done | rfl | (simp only [List.length_drop, List.length_take]; rfl)) ?_; (with_reducible refine (laws_toCommitS.calls k _ _ l0 t990 _ ?side1 ?side2 A7.out).mono ?_); (case side1 => repeat (first | exact (Kd.C_below HR0.out HB.out) | (with_reducible refine Kd.C_alloc ?_ _) | (with_reducible refine Kd.C_drewN ?_ _) | (with_reducible refine Kd.C_drew ?_))); (case side2 => exact HC0.out); rintro e w24 ⟨v991, rfl, ho0, hb⟩; refine ⟨_, rfl, ?_⟩; have n0_ := Aside0.mk (Kd.S_elder' (by (with_reducible repeat (first | apply Kd.S_alloc | apply Kd.S_drewN | apply Kd.S_drew)); exact HO988.out) (Kd.S_base ho0) hb); have n1_ := Aside0.mk (Kd.S_lower (Kd.S_new' ho0 (Kd.S_lt (by (with_reducible repeat (first | apply Kd.S_alloc | apply Kd.S_drewN | apply Kd.S_drew)); exact HO988.out))) (below_size (by repeat (first | (with_reducible first | exact HB.out | apply below_alloc | apply pw_below_drewN | apply below_drew1) | exact HB.out)))); have n2_ := Aside0.mk (below_step (by repeat (first | (with_reducible first | exact HB.out | apply below_alloc | apply pw_below_drewN | apply below_drew1) | exact HB.out)) hb); clear HO988; clear HB; have HO988 := n0_; have HO992 := n1_; have HB := n2_; clear n0_ n1_ n2_; (try clear hb); (try clear hb2); (try clear hk); (try clear hi); (try clear ho0); obtain ⟨Ao25, co25, eo25⟩ := Kd.S_slice HO992.out; subst eo25) | ((with_reducible refine gate_callee (f := 90) rfl ?_); refine goesL_ (some 18) rfl rfl Try.func90 (by kernel_rfl) rfl #[.slice Ao25 t990.length co25] rfl (by (try simp only [List.map_toArray, List.map_cons, List.map_nil]); first | done | rfl | (simp only [List.length_drop, List.length_take]; rfl)) ?_; (with_reducible refine (impl_StoreOK.calls k _ _ t990 t993 _ ?side1 ?side2 A8.out).mono ?_); (case side1 => repeat (first | exact (Kd.S_reads' HO992.out).2.2 | (with_reducible refine Kd.C_alloc ?_ _) | (with_reducible refine Kd.C_drewN ?_ _) | (with_reducible refine Kd.C_drew ?_))); (case side2 => exact (Kd.S_reads' HO992.out).2.1); rintro e w26 ⟨rfl, hb⟩; refine ⟨_, rfl, ?_⟩; have n0_ := Aside0.mk (Kd.S_below (by (with_reducible repeat (first | apply Kd.S_alloc | apply Kd.S_drewN | apply Kd.S_drew)); exact HO988.out) hb); have n1_ := Aside0.mk (Kd.S_below (by (with_reducible repeat (first | apply Kd.S_alloc | apply Kd.S_drewN | apply Kd.S_drew)); exact HO992.out) hb); have n2_ := Aside0.mk (below_step (by repeat (first | (with_reducible first | exact HB.out | apply below_alloc | apply pw_below_drewN | apply below_drew1) | exact HB.out)) hb); clear HO988; clear HO992; clear HB; have HO988 := n0_; have HO992 := n1_; have HB := n2_; clear n0_ n1_ n2_; (try clear hb); (try clear hb2); (try clear hk); (try clear hi)) | ((with_reducible refine gate_callee (f := 89) rfl ?_); refine goesL_ (some 24) rfl rfl Try.func89 (by kernel_rfl) rfl #[.slice A0 l0.length c0] rfl (by (try simp only [List.map_toArray, List.map_cons, List.map_nil]); first | done | rfl | (simp only [List.length_drop, List.length_take]; rfl)) ?_; (with_reducible refine (laws_toCommitS.calls k _ _ l0 t994 _ ?side1 ?side2 A17.out).mono ?_); (case side1 => repeat (first | exact (Kd.C_below HR0.out HB.out) | (with_reducible refine Kd.C_alloc ?_ _) | (with_reducible refine Kd.C_drewN ?_ _) | (with_reducible refine Kd.C_drew ?_))); (case side2 => exact HC0.out); rintro e w27 ⟨v995, rfl, ho0, hb⟩; refine ⟨_, rfl, ?_⟩; have n0_ := Aside0.mk (Kd.S_elder' (by (with_reducible repeat (first | apply Kd.S_alloc | apply Kd.S_drewN | apply Kd.S_drew)); exact HO988.out) (Kd.S_base ho0) hb); have n1_ := Aside0.mk (Kd.S_elder' (by (with_reducible repeat (first | apply Kd.S_alloc | apply Kd.S_drewN | apply Kd.S_drew)); exact HO992.out) (Kd.S_base ho0) hb); have n2_ := Aside0.mk (Kd.S_lower (Kd.S_new' (Kd.S_new' ho0 (Kd.S_lt (by (with_reducible repeat (first | apply Kd.S_alloc | apply Kd.S_drewN | apply Kd.S_drew)); exact HO988.out))) (Kd.S_lt (by (with_reducible repeat (first | apply Kd.S_alloc | apply Kd.S_drewN | apply Kd.S_drew)); exact HO992.out))) (below_size (by repeat (first | (with_reducible first | exact HB.out | apply below_alloc | apply pw_below_drewN | apply below_drew1) | exact HB.out)))); have n3_ := Aside0.mk (below_step (by repeat (first | (with_reducible first | exact HB.out | apply below_alloc | apply pw_below_drewN | apply below_drew1) | exact HB.out)) hb); clear HO988; clear HO992; clear HB; have HO988 := n0_; have HO992 := n1_; have HO996 := n2_; have HB := n3_; clear n0_ n1_ n2_ n3_; (try clear hb); (try clear hb2); (try clear hk); (try clear hi); (try clear ho0); obtain ⟨Ao28, co28, eo28⟩ := Kd.S_slice HO996.out; subst eo28) | ((with_reducible refine gate_callee (f := 91) rfl ?_); refine goesL_ (some 25) rfl rfl Try.func91 (by kernel_rfl) rfl #[.slice Ao25 t990.length co25, .slice Ao28 t994.length co28] rfl (by (try simp only [List.map_toArray, List.map_cons, List.map_nil]); first | done | rfl | (simp only [List.length_drop, List.length_take]; rfl)) ?_; (with_reducible refine (laws_eqCommitS.calls k _ _ t990 _ _ t994 true _ ?side1 ?side2 ?side3 ?side4 A18.out).mono ?_); (case side1 => repeat (first | exact (Kd.S_reads' HO992.out).2.2 | (with_reducible refine Kd.C_alloc ?_ _) | (with_reducible refine Kd.C_drewN ?_ _) | (with_reducible refine Kd.C_drew ?_))); (case side2 => exact (Kd.S_reads' HO992.out).2.1); (case side3 => repeat (first | exact (Kd.S_reads' HO996.out).2.2 | (with_reducible refine Kd.C_alloc ?_ _) | (with_reducible refine Kd.C_drewN ?_ _) | (with_reducible refine Kd.C_drew ?_))); (case side4 => exact (Kd.S_reads' HO996.out).2.1); rintro e w29 ⟨rfl, hb⟩; refine ⟨_, rfl, ?_⟩; have n0_ := Aside0.mk (Kd.S_below (by (with_reducible repeat (first | apply Kd.S_alloc | apply Kd.S_drewN | apply Kd.S_drew)); exact HO988.out) hb); have n1_ := Aside0.mk (Kd.S_below (by (with_reducible repeat (first | apply Kd.S_alloc | apply Kd.S_drewN | apply Kd.S_drew)); exact HO992.out) hb); have n2_ := Aside0.mk (Kd.S_below (by (with_reducible repeat (first | apply Kd.S_alloc | apply Kd.S_drewN | apply Kd.S_drew)); exact HO996.out) hb); have n3_ := Aside0.mk (below_step (by repeat (first | (with_reducible first | exact HB.out | apply below_alloc | apply pw_below_drewN | apply below_drew1) | exact HB.out)) hb); clear HO988; clear HO992; clear HO996; clear HB; have HO988 := n0_; have HO992 := n1_; have HO996 := n2_; have HB := n3_; clear n0_ n1_ n2_ n3_; (try clear hb); (try clear hb2); (try clear hk); (try clear hi)))
        go_ret
        exact ⟨by first | rfl | (simp [errW_none, errW_some] <;> rfl) | (simp [*, errW_none, errW_some] <;> rfl), by repeat (first | (with_reducible first | exact HB.out | apply below_alloc | apply pw_below_drewN | apply below_drew1) | exact HB.out)⟩
      · replace c19 := Bool.eq_false_iff.mpr c19
        subst c19
        have H1 : (some false) = some true := by rw [if_neg (show ¬ (false = true) by decide)] at H; exact H
        exact absurd H1 (by simp)
end Go.Proofs.Ytmkgkinhbahlmaa.Q
end

section
namespace Go.Proofs.Ytmkgkinhbahlmaa.Q
open Go.RowKit Go.Proofs.YtmkgkinhbahlmaaW.PrintWords Go.Proofs.YtmkgkinhbahlmaaW.PrintLast Go.Proofs.YtmkgkinhbahlmaaW.PrintMore
attribute [local go_sem] max2_int min2_int max_two min_two max_three min_three max_four min_four   -- for this text's walks alone
set_option linter.unusedVariables false
set_option linter.unusedSimpArgs false
attribute [local go_sem] bin_leq bin_gtr bin_geq
def Opens {α : Type} (P : Program) (d : Kd α) (t : TypeId) (G : α → Prop) : Prop :=
  P.cellsOf t = d.sz ∧ ∀ {H : Type} (enc : TypeId × Value → H) (w : World) (base : Nat) (spare : Nat → Bool) (held : Bool) (fuel : Nat) (cs : List Value) (x : DataW H × List MemPlace),
    DataW.trod enc P w base spare held fuel t cs = some x → ∃ v, d.K w v cs ∧ G v
theorem add_twice (a : Addr) (m i : Nat) : (a.add m).add i = a.add (m + i) := by
  unfold Addr.add
  by_cases h1 : m = 0 <;> by_cases h2 : i = 0 <;> simp_all [Nat.add_assoc]
theorem opens_int {P : Program} {t : TypeId} {k : IntKind} (ht : P.underlying t = some (.int k)) (hc : P.cellsOf t = 1) : Opens P (Kd.int k) t (fun n => (Lit.int k n).wf = true) := by
  refine ⟨hc, fun enc w base spare held fuel cs x h => ?_⟩
  cases fuel with
  | zero => simp [DataW.trod] at h
  | succ n =>
    unfold DataW.trod at h
    rw [ht] at h
    split at h <;> simp_all
    obtain ⟨⟨rfl, h1⟩, _⟩ := h
    exact ⟨_, rfl, h1⟩
theorem opens_string {P : Program} {t : TypeId} (ht : P.underlying t = some .string) (hc : P.cellsOf t = 1) : Opens P Kd.string t (fun s => s.size ≤ 9223372036854775807) := by
  refine ⟨hc, fun enc w base spare held fuel cs x h => ?_⟩
  cases fuel with
  | zero => simp [DataW.trod] at h
  | succ n =>
    unfold DataW.trod at h
    rw [ht] at h
    split at h <;> simp_all
    exact ⟨_, rfl, h.1⟩
theorem list_of {α : Type} {Q : Nat → α → Prop} : ∀ n, (∀ i, i < n → ∃ v, Q i v) → ∃ l : List α, l.length = n ∧ ∀ i v, l[i]? = some v → Q i v
  | 0, _ => ⟨[], rfl, fun i v h => by simp at h⟩
  | n + 1, h => by
    obtain ⟨l, hl, hq⟩ := list_of n (fun i hi => h i (by omega))
    obtain ⟨v, hv⟩ := h n (by omega)
    refine ⟨l ++ [v], by simp [hl], fun i u hu => ?_⟩
    by_cases hi : i < l.length
    · rw [List.getElem?_append_left hi] at hu
      exact hq i u hu
    · have hi2 : i = l.length := by
        have := (List.getElem?_eq_some_iff.1 hu).1
        rw [List.length_append, List.length_singleton] at this
        omega
      subst hi2
      have hu' : v = u := by simpa using hu
      subst hu'
      rw [hl]
      exact hv
theorem opens_slice {α : Type} {P : Program} {d : Kd α} {t e : TypeId} {G : α → Prop} (ht : P.underlying t = some (.slice e)) (hc : P.cellsOf t = 1) (O : Opens P d e G) :
    Opens P (Kd.slice e d) t (fun l => l.length ≤ 9223372036854775807 ∧ ∀ x, x ∈ l → G x) := by
  refine ⟨hc, fun enc w base spare held fuel cs x h => ?_⟩
  rcases DataW.trod_slice ht h with ⟨rfl, _⟩ | ⟨a, len, cap, elems, rest, n, _, rfl, _, hb, hl, hm, hlen, hel, _, _⟩
  · exact ⟨[], ⟨none, 0, rfl, Nat.le_refl _, Kd.C_nil d w⟩, by simp, fun x hx => by simp at hx⟩
  · have each : ∀ i, i < len → ∃ v : α, (∃ c, c.length = d.sz ∧ d.K w v c ∧ ∀ j u, c[j]? = some u → w.cell? (a.add (i * d.sz + j)) = some u) ∧ G v := by
      intro i hi
      have h1 := hel i hi
      have h2 : elems[i]? = some (elems[i]'(by omega)) := List.getElem?_eq_getElem (by omega)
      rw [h2, Option.bind_eq_some_iff] at h1
      obtain ⟨c, hcc, htr⟩ := h1
      obtain ⟨v, hK, hG⟩ := O.2 enc w base spare held n c _ htr
      obtain ⟨_, hcl, hcells⟩ := World.cells?_some hcc
      refine ⟨v, ⟨c, d.K_len hK, hK, fun j u hu => ?_⟩, hG⟩
      have hj : j < c.length := (List.getElem?_eq_some_iff.1 hu).1
      have := hcells j (by omega)
      rw [hu, add_twice, O.1] at this
      exact this
    obtain ⟨l, hll, hq⟩ := list_of len each
    refine ⟨l, ⟨some a, cap, by rw [hll], by omega, hll ▸ ?_⟩, by unfold maxLen at hm; omega, fun x hx => ?_⟩
    · refine ⟨hll, by unfold maxLen at hm; omega, fun hp => ⟨a, rfl, fun j p hj => ?_⟩⟩
      obtain ⟨c, h1, h2, h3⟩ := (hq j p hj).1
      exact ⟨c, h1, h2, h3⟩
    · obtain ⟨i, hi, rfl⟩ := List.mem_iff_getElem.mp hx
      exact (hq i _ (List.getElem?_eq_getElem hi)).2
theorem open_row {α : Type} {P : Program} {d : Kd α} {t e : TypeId} {G : List α → Prop} (O : Opens P (Kd.slice e d) t G) {H : Type} {enc : TypeId × Value → H} {w : World} {base : Nat} {spare : Nat → Bool} {held : Bool} {a : Option Addr} {len cap : Nat} {x : DataW H} {ps : List MemPlace}
    (h : DataW.Trod enc P w base spare held t (.slice a len cap) x ps) : ∃ l, len = l.length ∧ l.length ≤ cap ∧ Kd.C d w a l.length l ∧ G l := by
  obtain ⟨fuel, hf⟩ := h
  obtain ⟨l, ⟨A, c, he, hl, hC⟩, hG⟩ := O.2 enc w base spare held fuel _ _ hf
  simp only [Value.cells] at he
  have he2 : Value.slice a len cap = Value.slice A l.length c := by simpa using he
  injection he2 with h1 h2 h3
  subst h1 h2 h3
  exact ⟨l, rfl, hl, hC, hG⟩
end Go.Proofs.Ytmkgkinhbahlmaa.Q
end

section
namespace Go.Proofs.Ytmkgkinhbahlmaa.Q
open Go.RowKit Go.Proofs.YtmkgkinhbahlmaaW.PrintWords Go.Proofs.YtmkgkinhbahlmaaW.PrintLast Go.Proofs.YtmkgkinhbahlmaaW.PrintMore
attribute [local go_sem] max2_int min2_int max_two min_two max_three min_three max_four min_four   -- for this text's walks alone
set_option linter.unusedVariables false
set_option linter.unusedSimpArgs false
attribute [local go_sem] bin_leq bin_gtr bin_geq
def good153 (x : S153) : Prop := (fun s => s.size ≤ 9223372036854775807) x.f0 ∧ (fun n => (Lit.int .i64 n).wf = true) x.f1
set_option maxRecDepth 100000 in
theorem opens_153 : Opens Try.prog k153 153 good153 := by
  refine ⟨by kernel_rfl, fun enc w base spare held fuel cs x h => ?_⟩
  obtain ⟨xs, n, _, _, hcl, hxl, hf⟩ := DataW.trod_struct Try.underlying153 h
  have hcl2 : cs.length = 2 := hcl.trans (by kernel_rfl)
  obtain ⟨c0, c1, rfl⟩ : ∃ c0 c1, cs = [c0, c1] := by
    match cs, hcl2 with
    | [c0, c1], _ => exact ⟨c0, c1, rfl⟩
  have h0 := hf 0 _ rfl
  rw [List.getElem?_eq_getElem (show 0 < xs.length by rw [hxl]; decide)] at h0
  obtain ⟨v0, K0, G0⟩ := (opens_string Try.underlying9 (by kernel_rfl)).2 enc w base spare held n [c0] _ ((show DataW.trod enc Try.prog w base spare held n 9 [c0] = _ from (by first | exact h0 | (rw [show Try.prog.cellsOf 9 = 1 by kernel_rfl] at h0; exact h0))))
  have h1 := hf 1 _ rfl
  rw [List.getElem?_eq_getElem (show 1 < xs.length by rw [hxl]; decide)] at h1
  obtain ⟨v1, K1, G1⟩ := (opens_int (k := .i64) Try.underlying3 (by kernel_rfl)).2 enc w base spare held n [c1] _ ((show DataW.trod enc Try.prog w base spare held n 3 [c1] = _ from (by first | exact h1 | (rw [show Try.prog.cellsOf 3 = 1 by kernel_rfl] at h1; exact h1))))
  exact ⟨⟨v0, v1⟩, ⟨[c0], [c1], rfl, K0, K1⟩, ⟨G0, G1⟩⟩
end Go.Proofs.Ytmkgkinhbahlmaa.Q
end

section
namespace Go.Proofs.Ytmkgkinhbahlmaa.Q
open Go.RowKit Go.Proofs.YtmkgkinhbahlmaaW.PrintWords Go.Proofs.YtmkgkinhbahlmaaW.PrintLast Go.Proofs.YtmkgkinhbahlmaaW.PrintMore
attribute [local go_sem] max2_int min2_int max_two min_two max_three min_three max_four min_four   -- for this text's walks alone
set_option linter.unusedVariables false
set_option linter.unusedSimpArgs false
attribute [local go_sem] bin_leq bin_gtr bin_geq
def good116 (x : S116) : Prop := (fun l => l.length ≤ 9223372036854775807 ∧ ∀ x, x ∈ l → (fun n => (Lit.int .i64 n).wf = true) x) x.f0 ∧ (fun l => l.length ≤ 9223372036854775807 ∧ ∀ x, x ∈ l → good153 x) x.f1
set_option maxRecDepth 100000 in
theorem opens_116 : Opens Try.prog k116 116 good116 := by
  refine ⟨by kernel_rfl, fun enc w base spare held fuel cs x h => ?_⟩
  obtain ⟨xs, n, _, _, hcl, hxl, hf⟩ := DataW.trod_struct Try.underlying116 h
  have hcl2 : cs.length = 2 := hcl.trans (by kernel_rfl)
  obtain ⟨c0, c1, rfl⟩ : ∃ c0 c1, cs = [c0, c1] := by
    match cs, hcl2 with
    | [c0, c1], _ => exact ⟨c0, c1, rfl⟩
  have h0 := hf 0 _ rfl
  rw [List.getElem?_eq_getElem (show 0 < xs.length by rw [hxl]; decide)] at h0
  obtain ⟨v0, K0, G0⟩ := (opens_slice Try.underlying114 (by kernel_rfl) (opens_int (k := .i64) Try.underlying3 (by kernel_rfl))).2 enc w base spare held n [c0] _ ((show DataW.trod enc Try.prog w base spare held n 114 [c0] = _ from (by first | exact h0 | (rw [show Try.prog.cellsOf 114 = 1 by kernel_rfl] at h0; exact h0))))
  have h1 := hf 1 _ rfl
  rw [List.getElem?_eq_getElem (show 1 < xs.length by rw [hxl]; decide)] at h1
  obtain ⟨v1, K1, G1⟩ := (opens_slice Try.underlying39 (by kernel_rfl) opens_153).2 enc w base spare held n [c1] _ ((show DataW.trod enc Try.prog w base spare held n 39 [c1] = _ from (by first | exact h1 | (rw [show Try.prog.cellsOf 39 = 1 by kernel_rfl] at h1; exact h1))))
  exact ⟨⟨v0, v1⟩, ⟨[c0], [c1], rfl, K0, K1⟩, ⟨G0, G1⟩⟩
end Go.Proofs.Ytmkgkinhbahlmaa.Q
end

section
namespace Go.Proofs.Ytmkgkinhbahlmaa.Q
open Go.RowKit Go.Proofs.YtmkgkinhbahlmaaW.PrintWords Go.Proofs.YtmkgkinhbahlmaaW.PrintLast Go.Proofs.YtmkgkinhbahlmaaW.PrintMore
attribute [local go_sem] max2_int min2_int max_two min_two max_three min_three max_four min_four   -- for this text's walks alone
set_option linter.unusedVariables false
set_option linter.unusedSimpArgs false
attribute [local go_sem] bin_leq bin_gtr bin_geq
def laws_FnExactStoreOK.Pure : Prop := ∀ (l0 : List (S116)), (fun l => l.length ≤ 9223372036854775807 ∧ ∀ x, x ∈ l → good116 x) l0 → ∃ k, laws_FnExactStoreOK.f k l0 = some true
theorem laws_FnExactStoreOK.walk (P : laws_FnExactStoreOK.Pure) (A0 : Option Addr) (c0 : Nat) (l0 : List (S116)) (w : World) (w0 : (fun l => l.length ≤ 9223372036854775807 ∧ ∀ x, x ∈ l → good116 x) l0) (hr0 : Kd.C k116 w A0 l0.length l0) (hc0 : l0.length ≤ c0) :
    Calls Try.prog 18 #[.slice A0 l0.length c0] w fun e w' => e = .returned (.bool true) ∧ Below w.heap.size w w' := by
  obtain ⟨k, hk⟩ := P l0 w0
  exact (laws_FnExactStoreOK.calls k A0 c0 l0 w hr0 hc0 hk).mono fun e w' h => ⟨h.1, h.2⟩
end Go.Proofs.Ytmkgkinhbahlmaa.Q
end

section
namespace Go.Proofs.Ytmkgkinhbahlmaa.Q
open Go.RowKit Go.Proofs.YtmkgkinhbahlmaaW.PrintWords Go.Proofs.YtmkgkinhbahlmaaW.PrintLast
theorem isValue_f (n : Int) : impl_isValue.f n = some (inB n (-1000000) 1000000) := by
  unfold impl_isValue.f impl_within.f inB
  by_cases h : (-1000000 : Int) ≤ n <;> simp [h]
theorem mapOK_l0 (l : List S155) (hlen : l.length ≤ 4611686018427387904) (d : Nat) : ∀ i : Nat, i + d = l.length → (∀ j, j < i → entAt l j = true) → Ev (fun k => impl_MapOK.l0 k l l (l.length : Int) (i : Int)) (mapB l) := by
  induction d with
  | zero =>
    intro i hi hp
    have e : mapB l = decide ((l.length : Int) ≤ 12) := by
      unfold mapB
      rw [allR_true (fun j hj => hp j (by omega)), Bool.and_true]
      by_cases h : l.length ≤ 12
      · rw [decide_eq_true h, decide_eq_true (by omega)]
      · rw [decide_eq_false h, decide_eq_false (by omega)]
    rw [e]
    exact Ev.step (f := fun _ => some (decide ((l.length : Int) ≤ 12))) (fun k => by simp only [impl_MapOK.l0]; rw [if_neg (by omega)]) (Ev.now _)
  | succ d ih =>
    intro i hi hp
    have hw : wrap64 ((i : Int) + 1) = ((i + 1 : Nat) : Int) := by unfold wrap64; omega
    have hbad : entAt l i = false → mapB l = false := fun h => by
      unfold mapB
      rw [allR_false (j := i) (by omega) h, Bool.and_false]
    have hgo : entAt l i = true → Ev (fun k => impl_MapOK.l0 k l l (l.length : Int) ((i + 1 : Nat) : Int)) (mapB l) := fun h => ih (i + 1) (by omega) (fun j hj => by
      by_cases e : j = i
      · rw [e]; exact h
      · exact hp j (by omega))
    have E : entAt l i = (nameB (rd_T155 l (i : Int)).f0 && inB (rd_T155 l (i : Int)).f1 (-1000000) 1000000 && (i == 0 || sblt (rd_T155 l ((i : Int) - 1)).f0 (rd_T155 l (i : Int)).f0)) := rfl
    have c1 : (i : Int) < (l.length : Int) := by omega
    have c2 : (0 : Int) ≤ (i : Int) := by omega
    cases hN : nameB (rd_T155 l (i : Int)).f0 with
    | false =>
      rw [hbad (by rw [E, hN]; rfl)]
      refine Ev.step (f := fun _ => some false) (fun k => ?_) (Ev.now _)
      simp only [impl_MapOK.l0, impl_NameOK.f, hN, if_pos c1, if_pos c2, Option.bind_some, Bool.false_eq_true, if_false]
    | true =>
      cases hV : inB (rd_T155 l (i : Int)).f1 (-1000000) 1000000 with
      | false =>
        rw [hbad (by rw [E, hN, hV]; rfl)]
        refine Ev.step (f := fun _ => some false) (fun k => ?_) (Ev.now _)
        simp only [impl_MapOK.l0, impl_NameOK.f, isValue_f, hN, hV, if_pos c1, if_pos c2, Option.bind_some, Bool.false_eq_true, if_false, if_true]
      | true =>
        by_cases hz : i = 0
        · have hg := hgo (by rw [E, hN, hV]; simp [hz])
          refine Ev.step (fun k => ?_) hg
          have c3 : ¬ ((i : Int) > 0) := by omega
          simp only [impl_MapOK.l0, impl_NameOK.f, isValue_f, hN, hV, if_pos c1, if_pos c2, if_neg c3, Option.bind_some, if_true, hw]
        · have c3 : (i : Int) > 0 := by omega
          have hw2 : wrap64 ((i : Int) - 1) = (i : Int) - 1 := by unfold wrap64; omega
          have c4 : (0 : Int) ≤ (i : Int) - 1 := by omega
          have c5 : (i : Int) - 1 < (l.length : Int) := by omega
          have z : (i == 0) = false := by simp [hz]
          cases hS : sblt (rd_T155 l ((i : Int) - 1)).f0 (rd_T155 l (i : Int)).f0 with
          | false =>
            rw [hbad (by rw [E, hN, hV, hS, z]; rfl)]
            have hS1 : Op.bytesLess (rd_T155 l ((i : Int) - 1)).f0.toList (rd_T155 l (i : Int)).f0.toList = false := hS
            refine Ev.step (f := fun _ => some false) (fun k => ?_) (Ev.now _)
            simp only [impl_MapOK.l0, impl_NameOK.f, isValue_f, hN, hV, hS1, hw2, if_pos c1, if_pos c2, if_pos c3, if_pos c4, if_pos c5, Option.bind_some, if_true, Bool.false_eq_true, if_false]
          | true =>
            have hg := hgo (by rw [E, hN, hV, hS]; simp)
            have hS1 : Op.bytesLess (rd_T155 l ((i : Int) - 1)).f0.toList (rd_T155 l (i : Int)).f0.toList = true := hS
            refine Ev.step (fun k => ?_) hg
            simp only [impl_MapOK.l0, impl_NameOK.f, isValue_f, hN, hV, hS1, hw2, if_pos c1, if_pos c2, if_pos c3, if_pos c4, if_pos c5, Option.bind_some, if_true, hw]
theorem mapOK_ev (l : List S155) (hlen : l.length ≤ 4611686018427387904) : Ev (fun k => impl_MapOK.f k l) (mapB l) := mapOK_l0 l hlen l.length 0 (by omega) (fun j hj => absurd hj (Nat.not_lt_zero _))
end Go.Proofs.Ytmkgkinhbahlmaa.Q
end

section
namespace Go.Proofs.Ytmkgkinhbahlmaa.Q
open Go.RowKit Go.Proofs.YtmkgkinhbahlmaaW.PrintWords Go.Proofs.YtmkgkinhbahlmaaW.PrintLast
theorem l01In_is (a b c : Int) : spec_l01In.f a b c = some (inB a b c) := by
  unfold spec_l01In.f inB
  by_cases h : b ≤ a <;> simp [h]
end Go.Proofs.Ytmkgkinhbahlmaa.Q
end

section
namespace Go.Proofs.Ytmkgkinhbahlmaa.Q
open Go.RowKit Go.Proofs.YtmkgkinhbahlmaaW.PrintWords Go.Proofs.YtmkgkinhbahlmaaW.PrintLast Go.Proofs.YtmkgkinhbahlmaaW.PrintMore
attribute [local go_sem] max2_int min2_int max_two min_two max_three min_three max_four min_four   -- for this text's walks alone
set_option linter.unusedVariables false
set_option linter.unusedSimpArgs false
attribute [local go_sem] bin_leq bin_gtr bin_geq
theorem ev_map_loop {α β : Type} {L : Nat → List α → List β → Int → Option (List β)} {g : Nat → α → Option β} {cv : α → β} {z : α}
    (step : ∀ k xs acc i, L (k + 1) xs acc i = if i < (xs.length : Int) then (if 0 ≤ i then ((g k (xs.getD i.toNat z)).bind fun y => (if i < (acc.length : Int) then (L k xs (acc.set i.toNat y) (wrap64 (i + 1))) else none)) else none) else some acc)
    (xs : List α) (hlen : xs.length ≤ 4611686018427387904) (hg : ∀ x, x ∈ xs → Ev (fun k => g k x) (cv x)) (acc : List β) (ha : acc.length = xs.length) : Ev (fun k => L k xs acc 0) (xs.map cv) := by
  have key : ∀ d (i : Nat) (acc : List β), i + d = xs.length → acc.length = xs.length → Ev (fun k => L k xs acc (i : Int)) (acc.take i ++ (xs.drop i).map cv) := by
    intro d
    induction d with
    | zero =>
      intro i acc hi ha
      refine Ev.step (f := fun _ => some acc) (fun k => by rw [step, if_neg (by omega)]) ?_
      rw [List.take_of_length_le (by omega), List.drop_eq_nil_of_le (by omega)]
      simpa using Ev.now acc
    | succ d ih =>
      intro i acc hi ha
      have hl : i < xs.length := by omega
      have hw : wrap64 ((i : Int) + 1) = ((i + 1 : Nat) : Int) := by unfold wrap64; omega
      have hx : xs.getD ((i : Int).toNat) z = xs[i] := by simp [List.getD_eq_getElem?_getD, List.getElem?_eq_getElem hl]
      refine Ev.step (f := fun k => (g k xs[i]).bind fun y => L k xs (acc.set i y) ((i + 1 : Nat) : Int)) (fun k => ?_) ?_
      · rw [step, if_pos (by omega), if_pos (by omega), hx, hw]
        congr 1
        funext y
        rw [if_pos (by omega)]
        simp
      · have h2 := ih (i + 1) (acc.set i (cv xs[i])) (by omega) (by simpa using ha)
        have e : (acc.set i (cv xs[i])).take (i + 1) ++ (xs.drop (i + 1)).map cv = acc.take i ++ (xs.drop i).map cv := by
          rw [List.drop_eq_getElem_cons hl, List.map_cons, List.take_succ_eq_append_getElem (by simpa using (show i < acc.length by omega)), List.take_set_of_le (by omega)]
          simp
        rw [e] at h2
        exact Ev.bind (hg _ (List.getElem_mem hl)) h2
  have h := key xs.length 0 acc (by omega) ha
  simpa using h
theorem ev_refl_loop {α : Type} {L : Nat → List α → List α → Int → Option Bool} {g : Nat → α → α → Option Bool} {z : α}
    (step : ∀ k xs ys i, L (k + 1) xs ys i = if i < (xs.length : Int) then (if 0 ≤ i then (if i < (ys.length : Int) then ((g k (xs.getD i.toNat z) (ys.getD i.toNat z)).bind fun t => (if t = true then L k xs ys (wrap64 (i + 1)) else some false)) else none) else none) else some true)
    (xs : List α) (hlen : xs.length ≤ 4611686018427387904) (hg : ∀ x, x ∈ xs → Ev (fun k => g k x x) true) : Ev (fun k => L k xs xs 0) true := by
  have key : ∀ d (i : Nat), i + d = xs.length → Ev (fun k => L k xs xs (i : Int)) true := by
    intro d
    induction d with
    | zero =>
      intro i hi
      exact Ev.step (f := fun _ => some true) (fun k => by rw [step, if_neg (by omega)]) (Ev.now true)
    | succ d ih =>
      intro i hi
      have hl : i < xs.length := by omega
      have hw : wrap64 ((i : Int) + 1) = ((i + 1 : Nat) : Int) := by unfold wrap64; omega
      have hx : xs.getD ((i : Int).toNat) z = xs[i] := by simp [List.getD_eq_getElem?_getD, List.getElem?_eq_getElem hl]
      refine Ev.step (f := fun k => (g k xs[i] xs[i]).bind fun t => if t = true then L k xs xs ((i + 1 : Nat) : Int) else some false) (fun k => ?_) ?_
      · rw [step, if_pos (by omega), if_pos (by omega), if_pos (by omega), hx, hw]
      · refine Ev.bind (hg _ (List.getElem_mem hl)) ?_
        simp only [if_true]
        exact ih (i + 1) (by omega)
  exact key xs.length 0 (by omega)
theorem ev_sz_loop {α : Type} {L : Nat → List α → Int → Int → Option Int} {g : Nat → α → Int → Option Int} {z : α}
    (step : ∀ k xs left i, L (k + 1) xs left i = if i < (xs.length : Int) then (if 0 ≤ i then ((g k (xs.getD i.toNat z) left).bind fun t => (if t < 0 then some (-1) else L k xs t (wrap64 (i + 1)))) else none) else some left)
    (xs : List α) (hlen : xs.length ≤ 4611686018427387904) (hg : ∀ x, x ∈ xs → ∀ left : Int, 0 ≤ left → left ≤ 1048576 → ∃ r, Ev (fun k => g k x left) r ∧ r ≤ left) (left : Int) (h0 : 0 ≤ left) (h1 : left ≤ 1048576) :
    ∃ r, Ev (fun k => L k xs left 0) r ∧ r ≤ left := by
  have key : ∀ d (i : Nat) (left : Int), i + d = xs.length → 0 ≤ left → left ≤ 1048576 → ∃ r, Ev (fun k => L k xs left (i : Int)) r ∧ r ≤ left := by
    intro d
    induction d with
    | zero =>
      intro i left hi h0 h1
      exact ⟨left, Ev.step (f := fun _ => some left) (fun k => by rw [step, if_neg (by omega)]) (Ev.now left), by omega⟩
    | succ d ih =>
      intro i left hi h0 h1
      have hl : i < xs.length := by omega
      have hw : wrap64 ((i : Int) + 1) = ((i + 1 : Nat) : Int) := by unfold wrap64; omega
      have hx : xs.getD ((i : Int).toNat) z = xs[i] := by simp [List.getD_eq_getElem?_getD, List.getElem?_eq_getElem hl]
      obtain ⟨t, ht, htl⟩ := hg _ (List.getElem_mem hl) left h0 h1
      by_cases hn : t < 0
      · refine ⟨-1, Ev.step (f := fun k => (g k xs[i] left).bind fun t => if t < 0 then some (-1) else L k xs t ((i + 1 : Nat) : Int)) (fun k => ?_) (Ev.bind ht ?_), by omega⟩
        · rw [step, if_pos (by omega), if_pos (by omega), hx, hw]
        · simp only [hn, if_true]
          exact Ev.now _
      · obtain ⟨r, hr, hrl⟩ := ih (i + 1) t (by omega) (by omega) (by omega)
        refine ⟨r, Ev.step (f := fun k => (g k xs[i] left).bind fun t => if t < 0 then some (-1) else L k xs t ((i + 1 : Nat) : Int)) (fun k => ?_) (Ev.bind ht ?_), by omega⟩
        · rw [step, if_pos (by omega), if_pos (by omega), hx, hw]
        · simp only [hn, if_false]
          exact hr
  exact key xs.length 0 left (by omega) h0 h1
end Go.Proofs.Ytmkgkinhbahlmaa.Q
end

section
namespace Go.Proofs.Ytmkgkinhbahlmaa.Q
open Go.RowKit Go.Proofs.YtmkgkinhbahlmaaW.PrintWords Go.Proofs.YtmkgkinhbahlmaaW.PrintLast
set_option linter.unusedVariables false
theorem Ev.at_ {α : Type} {g : Nat → Option α} {r : α} {c : Nat} (e : ∀ k, g (k + c) = some r) : Ev g r := by
  refine ⟨c, fun n hn => ?_⟩
  obtain ⟨m, rfl⟩ : ∃ m, n = m + c := ⟨n - c, by omega⟩
  exact e m
theorem Ev.succ {α : Type} {g : Nat → Option α} {r : α} (h : Ev (fun k => g (k + 1)) r) : Ev g r := Ev.step (fun _ => rfl) h
theorem ev_all_loop2 {L : Nat → Int → Option Bool} {n : Nat} {p : Nat → Bool} {fin : Bool} (m : Nat)
    (step : ∀ i : Nat, m ≤ i → i < n → (∀ j, j < i → p j = true) → p i = true → ∀ r, Ev (fun k => L k ((i + 1 : Nat) : Int)) r → Ev (fun k => L k (i : Int)) r)
    (stop : ∀ i : Nat, m ≤ i → i < n → (∀ j, j < i → p j = true) → p i = false → Ev (fun k => L k (i : Int)) false)
    (done : Ev (fun k => L k (n : Int)) fin) (hm : m ≤ n) (hpm : ∀ j, j < m → p j = true) : Ev (fun k => L k (m : Int)) (allR p n && fin) := by
  have key : ∀ d (i : Nat), m ≤ i → i + d = n → (∀ j, j < i → p j = true) → Ev (fun k => L k (i : Int)) (allR p n && fin) := by
    intro d
    induction d with
    | zero =>
      intro i _ hi hp
      obtain rfl : i = n := by omega
      rw [allR_true hp, Bool.true_and]
      exact done
    | succ d ih =>
      intro i hmi hi hp
      cases h : p i with
      | true =>
        refine step i hmi (by omega) hp h _ (ih (i + 1) (by omega) (by omega) (fun j hj => ?_))
        rcases Nat.lt_or_eq_of_le (Nat.le_of_lt_succ hj) with h1 | h1
        · exact hp j h1
        · rw [h1]; exact h
      | false =>
        rw [allR_false (by omega) h, Bool.false_and]
        exact stop i hmi (by omega) hp h
  exact key (n - m) m (Nat.le_refl _) (by omega) hpm
theorem ev_same_loop {α : Type} {L : Nat → Int → Option Bool} {xs ys : List α} (hl : xs.length = ys.length)
    (step : ∀ (i : Nat) (h1 : i < xs.length) (h2 : i < ys.length), xs[i] = ys[i] → ∀ k, L (k + 1) (i : Int) = L k ((i + 1 : Nat) : Int))
    (stop : ∀ (i : Nat) (h1 : i < xs.length) (h2 : i < ys.length), xs[i] ≠ ys[i] → ∀ k, L (k + 1) (i : Int) = some false)
    (done : ∀ k, L (k + 1) (xs.length : Int) = some true) : ∃ b, Ev (fun k => L k 0) b ∧ (b = true ↔ xs = ys) := by
  have key : ∀ d (i : Nat), i + d = xs.length → xs.take i = ys.take i → ∃ b, Ev (fun k => L k (i : Int)) b ∧ (b = true ↔ xs = ys) := by
    intro d
    induction d with
    | zero =>
      intro i hi hp
      obtain rfl : i = xs.length := by omega
      refine ⟨true, Ev.at_ (c := 1) done, fun _ => ?_, fun _ => rfl⟩
      rw [List.take_length, hl, List.take_length] at hp
      exact hp
    | succ d ih =>
      intro i hi hp
      have h1 : i < xs.length := by omega
      have h2 : i < ys.length := by omega
      rcases Classical.em (xs[i] = ys[i]) with h | h
      · obtain ⟨b, hb, hb2⟩ := ih (i + 1) (by omega) (by rw [List.take_succ_eq_append_getElem h1, List.take_succ_eq_append_getElem h2, hp, h])
        exact ⟨b, Ev.step (step i h1 h2 h) hb, hb2⟩
      · refine ⟨false, Ev.at_ (c := 1) (stop i h1 h2 h), by simp, fun e => absurd (by subst e; rfl) h⟩
  exact key xs.length 0 (by omega) (by simp)
theorem wrap_i {i : Nat} (h : i < 4611686018427387904) : wrap64 ((i : Int) + 1) = ((i + 1 : Nat) : Int) := by unfold wrap64; omega
theorem wrap_2 {i : Int} (h0 : -4611686018427387904 ≤ i) (h : i < 4611686018427387904) : wrap64 (i + 1) = i + 1 := by unfold wrap64; omega
end Go.Proofs.Ytmkgkinhbahlmaa.Q
end

section
namespace Go.Proofs.Ytmkgkinhbahlmaa.Q
open Go.RowKit Go.Proofs.YtmkgkinhbahlmaaW.PrintWords Go.Proofs.YtmkgkinhbahlmaaW.PrintLast
set_option linter.unusedVariables false
set_option linter.unusedSimpArgs false
theorem rdCommit {l : List S121} {i : Nat} (h : i < l.length) : rd_T121 l (i : Int) = l[i] := by
  simp [rd_T121, List.getD_eq_getElem?_getD, List.getElem?_eq_getElem h]
def commitB (n : Nat) (ps : List Int) (m : List S155) : Bool :=
  mapB m && match ps with
  | [] => n == 0
  | [a] => n != 0 && inB a 1 n
  | [a, b] => n != 0 && (inB a 1 n && (inB b 1 n && b != a))
  | _ => false
def storeB (l : List S121) : Bool := inB l.length 1 60 && allR (fun i => commitB i (rd_T121 l (i : Int)).f0 (rd_T121 l (i : Int)).f1) l.length
theorem nat_eq0 (n : Nat) : ((n : Int) == 0) = (n == 0) := by
  cases n with
  | zero => rfl
  | succ n =>
    have h1 : (((n + 1 : Nat) : Int) == 0) = false := by rw [beq_eq_false_iff_ne]; omega
    rw [h1]; rfl
theorem l03Commit_ev (st : List S121) (ps : List Int) (m : List S155) : Ev (fun k => spec_l03Commit.f k st ps m) (commitB st.length ps m) := by
  unfold commitB
  have w0 : wrap64 (0 + 1) = 1 := by unfold wrap64; omega
  have w1 : wrap64 (1 + 1) = 2 := by unfold wrap64; omega
  cases hm : mapB m with
  | false =>
    refine Ev.at_ (c := 1) (fun k => ?_)
    simp only [spec_l03Commit.f, spec_l01OK.f, Option.bind_some, hm, Bool.false_eq_true, if_false, spec_l03Commit.j0, if_true, Bool.false_and]
  | true =>
    match ps with
    | [] =>
      refine Ev.at_ (c := 2) (fun k => ?_)
      simp only [spec_l03Commit.f, spec_l01OK.f, Option.bind_some, hm, if_true, nat_eq0, List.length_nil, spec_l03Commit.j0, spec_l03Commit.l0]
      cases st.length == 0 <;> simp
    | [a] =>
      refine Ev.at_ (c := 4) (fun k => ?_)
      have r0 : rd [a] 0 = a := rfl
      simp only [spec_l03Commit.f, spec_l01OK.f, Option.bind_some, hm, if_true, nat_eq0, List.length_cons, List.length_nil, spec_l03Commit.j0, spec_l03Commit.l0, l01In_is, r0, w0, bne]
      cases st.length == 0 <;> cases inB a 1 st.length <;> simp
    | [a, b] =>
      refine Ev.at_ (c := 5) (fun k => ?_)
      have r0 : rd [a, b] 0 = a := rfl
      have r1 : rd [a, b] 1 = b := rfl
      simp only [spec_l03Commit.f, spec_l01OK.f, Option.bind_some, hm, if_true, nat_eq0, List.length_cons, List.length_nil, spec_l03Commit.j0, spec_l03Commit.l0, l01In_is, r0, r1, w0, w1, bne]
      by_cases hab : b = a
      · cases st.length == 0 <;> cases inB a 1 st.length <;> cases inB b 1 st.length <;> simp [hab]
      · cases st.length == 0 <;> cases inB a 1 st.length <;> cases inB b 1 st.length <;> simp [hab]
    | a :: b :: c :: r =>
      refine Ev.at_ (c := 1) (fun k => ?_)
      have h3 : (((a :: b :: c :: r).length : Nat) : Int) > 2 := by simp only [List.length_cons]; omega
      simp only [spec_l03Commit.f, spec_l01OK.f, Option.bind_some, hm, if_true, h3, spec_l03Commit.j0, Bool.and_false]
theorem isAt_ev (n : Nat) (hn : n ≤ 1048576) (ps : List Int) (m : List S155) (hm : m.length ≤ 1048576) : Ev (fun k => impl_Commit_isAt.f k ps m ((n : Int) + 1)) (commitB n ps m) := by
  unfold impl_Commit_isAt.f commitB
  refine Ev.bind (mapOK_ev m (by omega)) ?_
  have e1 : ((n : Int) + 1 == 1) = (n == 0) := by
    cases n with
    | zero => rfl
    | succ n =>
      have h1 : (((n + 1 : Nat) : Int) + 1 == 1) = false := by rw [beq_eq_false_iff_ne]; omega
      rw [h1]; rfl
  have l1 : (-9223372036854775807 : Int) ≤ (n : Int) + 1 := by omega
  have l2 : (n : Int) + 1 ≤ 9223372036854775807 := by omega
  have l3 : (n : Int) + 1 - 1 = (n : Int) := by omega
  cases mapB m with
  | false => simp only [Bool.false_eq_true, if_false, Bool.false_and]; exact Ev.now _
  | true =>
    simp only [if_true, Bool.true_and, areAllint_isAt.f, l1, l2, l3, e1]
    match ps with
    | [] =>
      refine Ev.at_ (c := 0) (fun k => ?_)
      cases hz : n == 0 <;> simp [hz]
    | [a] =>
      refine Ev.at_ (c := 0) (fun k => ?_)
      cases hz : n == 0 <;> cases h1 : inB a 1 n <;> simp [hz, h1, bne]
    | [a, b] =>
      refine Ev.at_ (c := 0) (fun k => ?_)
      have r0 : rd [a, b] 0 = a := rfl
      have r1 : rd [a, b] 1 = b := rfl
      by_cases hab : a = b
      · subst hab
        cases hz : n == 0 <;> simp [hz, r0, r1, bne]
      · have hba : ¬ b = a := fun h => hab h.symm
        cases hz : n == 0 <;> cases h1 : inB a 1 n <;> cases h2 : inB b 1 n <;> simp [hz, r0, r1, hab, hba, h1, h2, bne]
    | a :: b :: c :: r =>
      have h3 : (((a :: b :: c :: r).length : Nat) : Int) > 2 := by simp only [List.length_cons]; omega
      simp only [h3, if_true]
      exact Ev.now _
theorem l03OK_ev (l : List S121) : Ev (fun k => spec_l03OK.f k l) (storeB l) := by
  unfold spec_l03OK.f storeB
  simp only [l01In_is, Option.bind_some]
  cases hn : inB l.length 1 60 with
  | false => simp only [Bool.false_eq_true, if_false, Bool.false_and]; exact Ev.now _
  | true =>
    have h60 : l.length ≤ 60 := by
      unfold inB at hn
      simp only [Bool.and_eq_true, decide_eq_true_eq] at hn
      omega
    simp only [if_true, Bool.true_and]
    have h := ev_all_loop2 (L := fun k i => spec_l03OK.l0 k l i) (n := l.length) (p := fun i => commitB i (rd_T121 l (i : Int)).f0 (rd_T121 l (i : Int)).f1) (fin := true) 0 (fun i _ hi _ hp r hr => by
      have c1 : (i : Int) < (l.length : Int) := by omega
      have c2 : (i : Int) ≤ (l.length : Int) := by omega
      have hc := l03Commit_ev (l.take i) (rd_T121 l (i : Int)).f0 (rd_T121 l (i : Int)).f1
      rw [List.length_take, Nat.min_eq_left (by omega), hp] at hc
      refine Ev.succ (g := fun k => spec_l03OK.l0 k l (i : Int)) ?_
      simp only [spec_l03OK.l0, c1, c2, Int.natCast_nonneg, if_true, Int.toNat_natCast, wrap_i (show i < 4611686018427387904 by omega)]
      refine Ev.bind hc ?_
      simp only [if_true]
      exact hr) (fun i _ hi _ hp => by
      have c1 : (i : Int) < (l.length : Int) := by omega
      have c2 : (i : Int) ≤ (l.length : Int) := by omega
      have hc := l03Commit_ev (l.take i) (rd_T121 l (i : Int)).f0 (rd_T121 l (i : Int)).f1
      rw [List.length_take, Nat.min_eq_left (by omega), hp] at hc
      refine Ev.succ (g := fun k => spec_l03OK.l0 k l (i : Int)) ?_
      simp only [spec_l03OK.l0, c1, c2, Int.natCast_nonneg, if_true, Int.toNat_natCast]
      refine Ev.bind hc ?_
      simp only [Bool.false_eq_true, if_false]
      exact Ev.now _) (Ev.at_ (c := 1) (fun k => by
      simp only [spec_l03OK.l0]
      rw [if_neg (by omega)])) (Nat.zero_le _) (fun j hj => absurd hj (Nat.not_lt_zero _))
    rw [Bool.and_true] at h
    exact h
theorem areCommits_ev (l : List S121) (hl : l.length ≤ 1048576) (hf : ∀ x, x ∈ l → x.f1.length ≤ 1048576) : Ev (fun k => impl_areCommits.f k l) (allR (fun i => commitB i (rd_T121 l (i : Int)).f0 (rd_T121 l (i : Int)).f1) l.length && decide ((l.length : Int) ≤ 60)) := by
  exact ev_all_loop2 (L := fun k i => impl_areCommits.l0 k l l (l.length : Int) i) (n := l.length) (p := fun i => commitB i (rd_T121 l (i : Int)).f0 (rd_T121 l (i : Int)).f1) 0 (fun i _ hi _ hp r hr => by
    have c1 : (i : Int) < (l.length : Int) := by omega
    have w := wrap_2 (i := (i : Int)) (by omega) (by omega)
    have hc := isAt_ev i (by omega) (rd_T121 l (i : Int)).f0 (rd_T121 l (i : Int)).f1 (by rw [rdCommit hi]; exact hf _ (List.getElem_mem hi))
    rw [hp] at hc
    refine Ev.succ (g := fun k => impl_areCommits.l0 k l l (l.length : Int) (i : Int)) ?_
    simp only [impl_areCommits.l0, c1, Int.natCast_nonneg, if_true, w]
    refine Ev.bind hc ?_
    simp only [if_true]
    exact hr) (fun i _ hi _ hp => by
    have c1 : (i : Int) < (l.length : Int) := by omega
    have w := wrap_2 (i := (i : Int)) (by omega) (by omega)
    have hc := isAt_ev i (by omega) (rd_T121 l (i : Int)).f0 (rd_T121 l (i : Int)).f1 (by rw [rdCommit hi]; exact hf _ (List.getElem_mem hi))
    rw [hp] at hc
    refine Ev.succ (g := fun k => impl_areCommits.l0 k l l (l.length : Int) (i : Int)) ?_
    simp only [impl_areCommits.l0, c1, Int.natCast_nonneg, if_true, w]
    refine Ev.bind hc ?_
    simp only [Bool.false_eq_true, if_false]
    exact Ev.now _) (Ev.at_ (c := 1) (fun k => by
    simp only [impl_areCommits.l0]
    rw [if_neg (by omega)])) (Nat.zero_le _) (fun j hj => absurd hj (Nat.not_lt_zero _))
theorem storeOK_ev (l : List S121) (hl : l.length ≤ 1048576) (hf : ∀ x, x ∈ l → x.f1.length ≤ 1048576) : Ev (fun k => impl_StoreOK.f k l) (storeB l) := by
  unfold impl_StoreOK.f storeB
  by_cases h0 : (l.length : Int) > 0
  · have hi : inB l.length 1 60 = decide ((l.length : Int) ≤ 60) := by
      unfold inB
      rw [decide_eq_true (by omega), Bool.true_and]
    simp only [h0, if_true, impl_Commit.f, Option.bind_some]
    by_cases h4 : (l.length : Int) ≤ 4096
    · simp only [h4, decide_true, if_true]
      rw [hi, Bool.and_comm]
      exact Ev.bind (areCommits_ev l hl hf) (Ev.now _)
    · simp only [h4, decide_false, Bool.false_eq_true, if_false]
      rw [hi, decide_eq_false (by omega), Bool.false_and]
      exact Ev.now _
  · have hi : inB l.length 1 60 = false := by
      unfold inB
      rw [decide_eq_false (by omega), Bool.false_and]
    simp only [h0, if_false, hi, Bool.false_and]
    exact Ev.now _
end Go.Proofs.Ytmkgkinhbahlmaa.Q
end

section
namespace Go.Proofs.Ytmkgkinhbahlmaa.Q
open Go.RowKit Go.Proofs.YtmkgkinhbahlmaaW.PrintWords Go.Proofs.YtmkgkinhbahlmaaW.PrintLast
set_option linter.unusedVariables false
def cvEntry (x : S153) : S155 := ⟨x.f0, x.f1⟩
theorem toEntryS_ev (l : List S153) (h : l.length ≤ 1048576) : Ev (fun k => laws_toEntryS.f k l) (l.map cvEntry) := by
  refine Ev.congr (f := fun k => laws_toEntryS.l0 k l (List.replicate l.length z155) 0) (fun k => ?_) ?_
  · unfold laws_toEntryS.f
    rw [if_pos (by omega), if_pos (by omega)]
    rfl
  · exact ev_map_loop (L := laws_toEntryS.l0) (g := fun _ x => some (cvEntry x)) (z := z153) (fun _ _ _ _ => rfl) l (by omega) (fun x _ => Ev.now _) _ (by simp)
theorem eqEntry_refl (x : S155) : laws_eqEntry.f x.f0 x.f1 x.f0 x.f1 = some true := by
  unfold laws_eqEntry.f
  simp
theorem eqEntryS_ev (l : List S155) (h : l.length ≤ 1048576) : Ev (fun k => laws_eqEntryS.f k l l) true := by
  refine Ev.congr (f := fun k => laws_eqEntryS.l0 k l l 0) (fun k => ?_) ?_
  · unfold laws_eqEntryS.f
    rw [if_pos rfl]
  · exact ev_refl_loop (L := laws_eqEntryS.l0) (g := fun _ x y => laws_eqEntry.f x.f0 x.f1 y.f0 y.f1) (z := z155) (fun _ _ _ _ => rfl) l (by omega) (fun x _ => Ev.congr (fun _ => eqEntry_refl x) (Ev.now _))
theorem szEntryS_ev (l : List S153) (hl : l.length ≤ 9223372036854775807) (hg : ∀ x, x ∈ l → good153 x) (left : Int) (h0 : 0 ≤ left) (h1 : left ≤ 1048576) :
    ∃ r, Ev (fun k => laws_szEntryS.f k l left) r ∧ r ≤ left ∧ (0 ≤ r → l.length ≤ 1048576) := by
  have hw : wrap64 (left - (l.length : Int)) = left - (l.length : Int) := by unfold wrap64; omega
  by_cases hn : left - (l.length : Int) < 0
  · refine ⟨-1, Ev.congr (f := fun _ => some (-1)) (fun k => ?_) (Ev.now _), by omega, by omega⟩
    unfold laws_szEntryS.f
    rw [hw, if_pos hn]
  · obtain ⟨r, hr, hrl⟩ := ev_sz_loop (L := laws_szEntryS.l0) (g := fun _ x left => laws_szEntry.f x.f0 x.f1 left) (z := z153) (fun _ _ _ _ => rfl) l (by omega) (fun x hx left h0 h1 => by
      have hsz : x.f0.size ≤ 9223372036854775807 := (hg x hx).1
      have hw2 : wrap64 (left - (x.f0.size : Int)) = left - (x.f0.size : Int) := by unfold wrap64; omega
      by_cases h2 : left - (x.f0.size : Int) < 0
      · refine ⟨-1, Ev.congr (f := fun _ => some (-1)) (fun k => ?_) (Ev.now _), by omega⟩
        unfold laws_szEntry.f
        rw [hw2, if_pos h2]
      · refine ⟨left - (x.f0.size : Int), Ev.congr (f := fun _ => some (left - (x.f0.size : Int))) (fun k => ?_) (Ev.now _), by omega⟩
        unfold laws_szEntry.f
        rw [hw2, if_neg h2]) (left - (l.length : Int)) (by omega) (by omega)
    refine ⟨r, Ev.congr (f := fun k => laws_szEntryS.l0 k l (left - (l.length : Int)) 0) (fun k => ?_) hr, by omega, by omega⟩
    unfold laws_szEntryS.f
    rw [hw, if_neg hn]
end Go.Proofs.Ytmkgkinhbahlmaa.Q
end

section
namespace Go.Proofs.Ytmkgkinhbahlmaa.Q
open Go.RowKit Go.Proofs.YtmkgkinhbahlmaaW.PrintWords Go.Proofs.YtmkgkinhbahlmaaW.PrintLast
set_option linter.unusedVariables false
set_option linter.unusedSimpArgs false
theorem toIntS_ev (l : List Int) (h : l.length ≤ 1048576) : Ev (fun k => laws_toIntS.f k l) l := by
  refine Ev.congr (f := fun k => laws_toIntS.l0 k l (List.replicate l.length 0) 0) (fun k => ?_) ?_
  · unfold laws_toIntS.f
    rw [if_pos (by omega), if_pos (by omega)]
    rfl
  · have h2 := ev_map_loop (L := laws_toIntS.l0) (g := fun _ x => some x) (cv := fun x => x) (z := (0 : Int)) (fun _ _ _ _ => rfl) l (by omega) (fun x _ => Ev.now _) (List.replicate l.length 0) (by simp)
    simpa using h2
theorem eqIntS_ev (l : List Int) (hl : l.length ≤ 1048576) : Ev (fun k => laws_eqIntS.f k l l) true := by
  obtain ⟨b, hb, h⟩ := ev_same_loop (L := fun k i => laws_eqIntS.l0 k l l i) (xs := l) (ys := l) rfl (fun i h1 h2 e k => by
    have c1 : (i : Int) < (l.length : Int) := by omega
    simp only [laws_eqIntS.l0, c1, Int.natCast_nonneg, if_true, wrap_i (show i < 4611686018427387904 by omega)]) (fun i h1 h2 e k => absurd rfl e) (fun k => by
    simp only [laws_eqIntS.l0]
    rw [if_neg (by omega)])
  obtain rfl : b = true := h.mpr rfl
  exact Ev.congr (f := fun k => laws_eqIntS.l0 k l l 0) (fun k => by unfold laws_eqIntS.f; rw [if_pos rfl]) hb
theorem szIntS_ev (l : List Int) (hl : l.length ≤ 9223372036854775807) (left : Int) (h0 : 0 ≤ left) (h1 : left ≤ 1048576) :
    ∃ r, laws_szIntS.f l left = some r ∧ r ≤ left ∧ (0 ≤ r → l.length ≤ 1048576) := by
  have hw : wrap64 (left - (l.length : Int)) = left - (l.length : Int) := by unfold wrap64; omega
  unfold laws_szIntS.f
  rw [hw]
  by_cases hn : left - (l.length : Int) < 0
  · exact ⟨-1, by rw [if_pos hn], by omega, by omega⟩
  · exact ⟨left - (l.length : Int), by rw [if_neg hn], by omega, by omega⟩
def cvCommit (x : S116) : S121 := ⟨x.f0, x.f1.map cvEntry⟩
def fitC (x : S116) : Prop := x.f0.length ≤ 1048576 ∧ x.f1.length ≤ 1048576
theorem szCommit_ev (x : S116) (g : good116 x) (left : Int) (h0 : 0 ≤ left) (h1 : left ≤ 1048576) : ∃ r, Ev (fun k => laws_szCommit.f k x.f0 x.f1 left) r ∧ r ≤ left ∧ (0 ≤ r → fitC x) := by
  unfold laws_szCommit.f
  obtain ⟨r, hr, hrl, hrs⟩ := szIntS_ev x.f0 g.1.1 left h0 h1
  simp only [hr, Option.bind_some]
  by_cases hn : r < 0
  · exact ⟨-1, by simp only [hn, if_true]; exact Ev.now _, by omega, by omega⟩
  · obtain ⟨r', hr', hrl', hrs'⟩ := szEntryS_ev x.f1 g.2.1 g.2.2 r (by omega) (by omega)
    by_cases hn' : r' < 0
    · exact ⟨-1, by simp only [hn, if_false]; refine Ev.bind hr' ?_; simp only [hn', if_true]; exact Ev.now _, by omega, by omega⟩
    · exact ⟨r', by simp only [hn, if_false]; refine Ev.bind hr' ?_; simp only [hn', if_false]; exact Ev.now _, by omega, fun h => ⟨hrs (by omega), hrs' h⟩⟩
theorem ev_sz_loop2 {α : Type} {L : Nat → List α → Int → Int → Option Int} {g : Nat → α → Int → Option Int} {z : α} {P : α → Prop}
    (step : ∀ k xs left i, L (k + 1) xs left i = if i < (xs.length : Int) then (if 0 ≤ i then ((g k (xs.getD i.toNat z) left).bind fun t => (if t < 0 then some (-1) else L k xs t (wrap64 (i + 1)))) else none) else some left)
    (xs : List α) (hlen : xs.length ≤ 4611686018427387904) (hg : ∀ x, x ∈ xs → ∀ left : Int, 0 ≤ left → left ≤ 1048576 → ∃ r, Ev (fun k => g k x left) r ∧ r ≤ left ∧ (0 ≤ r → P x)) (left : Int) (h0 : 0 ≤ left) (h1 : left ≤ 1048576) :
    ∃ r, Ev (fun k => L k xs left 0) r ∧ r ≤ left ∧ (0 ≤ r → ∀ x, x ∈ xs → P x) := by
  have key : ∀ d (i : Nat) (left : Int), i + d = xs.length → 0 ≤ left → left ≤ 1048576 → ∃ r, Ev (fun k => L k xs left (i : Int)) r ∧ r ≤ left ∧ (0 ≤ r → ∀ x, x ∈ xs.drop i → P x) := by
    intro d
    induction d with
    | zero =>
      intro i left hi h0 h1
      refine ⟨left, Ev.step (f := fun _ => some left) (fun k => by rw [step, if_neg (by omega)]) (Ev.now left), by omega, fun _ x hx => ?_⟩
      rw [List.drop_eq_nil_of_le (by omega)] at hx
      cases hx
    | succ d ih =>
      intro i left hi h0 h1
      have hl : i < xs.length := by omega
      have hw : wrap64 ((i : Int) + 1) = ((i + 1 : Nat) : Int) := by unfold wrap64; omega
      have hx : xs.getD ((i : Int).toNat) z = xs[i] := by simp [List.getD_eq_getElem?_getD, List.getElem?_eq_getElem hl]
      obtain ⟨t, ht, htl, hP⟩ := hg _ (List.getElem_mem hl) left h0 h1
      have hstep : ∀ k, L (k + 1) xs left (i : Int) = (g k xs[i] left).bind fun t => if t < 0 then some (-1) else L k xs t ((i + 1 : Nat) : Int) := fun k => by rw [step, if_pos (by omega), if_pos (by omega), hx, hw]
      by_cases hn : t < 0
      · refine ⟨-1, Ev.step hstep (Ev.bind ht ?_), by omega, by omega⟩
        simp only [hn, if_true]
        exact Ev.now _
      · obtain ⟨r, hr, hrl, hrP⟩ := ih (i + 1) t (by omega) (by omega) (by omega)
        refine ⟨r, Ev.step hstep (Ev.bind ht ?_), by omega, fun h x hx => ?_⟩
        · simp only [hn, if_false]
          exact hr
        · rw [List.drop_eq_getElem_cons hl] at hx
          rcases List.mem_cons.mp hx with rfl | hx
          · exact hP (by omega)
          · exact hrP h x hx
  have h := key xs.length 0 left (by omega) h0 h1
  simpa using h
theorem szCommitS_ev (l : List S116) (hl : l.length ≤ 9223372036854775807) (hg : ∀ x, x ∈ l → good116 x) (left : Int) (h0 : 0 ≤ left) (h1 : left ≤ 1048576) :
    ∃ r, Ev (fun k => laws_szCommitS.f k l left) r ∧ r ≤ left ∧ (0 ≤ r → l.length ≤ 1048576 ∧ ∀ x, x ∈ l → fitC x) := by
  have hw : wrap64 (left - (l.length : Int)) = left - (l.length : Int) := by unfold wrap64; omega
  by_cases hn : left - (l.length : Int) < 0
  · refine ⟨-1, Ev.congr (f := fun _ => some (-1)) (fun k => ?_) (Ev.now _), by omega, by omega⟩
    unfold laws_szCommitS.f
    rw [hw, if_pos hn]
  · obtain ⟨r, hr, hrl, hrP⟩ := ev_sz_loop2 (L := laws_szCommitS.l0) (g := fun k x left => laws_szCommit.f k x.f0 x.f1 left) (z := z116) (P := fitC) (fun _ _ _ _ => rfl) l (by omega) (fun x hx left h0 h1 => szCommit_ev x (hg x hx) left h0 h1) (left - (l.length : Int)) (by omega) (by omega)
    refine ⟨r, Ev.congr (f := fun k => laws_szCommitS.l0 k l (left - (l.length : Int)) 0) (fun k => ?_) hr, by omega, fun h => ⟨by omega, hrP h⟩⟩
    unfold laws_szCommitS.f
    rw [hw, if_neg hn]
theorem toCommit_ev (x : S116) (h : fitC x) : Ev (fun k => laws_toCommit.f k x.f0 x.f1) (x.f0, x.f1.map cvEntry) := by
  unfold laws_toCommit.f
  exact Ev.bind (toIntS_ev _ h.1) (Ev.bind (toEntryS_ev _ h.2) (Ev.now _))
theorem toCommitS_ev (l : List S116) (h : l.length ≤ 1048576) (hf : ∀ x, x ∈ l → fitC x) : Ev (fun k => laws_toCommitS.f k l) (l.map cvCommit) := by
  refine Ev.congr (f := fun k => laws_toCommitS.l0 k l (List.replicate l.length z121) 0) (fun k => ?_) ?_
  · unfold laws_toCommitS.f
    rw [if_pos (by omega), if_pos (by omega)]
    rfl
  · exact ev_map_loop (L := laws_toCommitS.l0) (g := fun k x => (laws_toCommit.f k x.f0 x.f1).bind fun bt => some (⟨bt.1, bt.2⟩ : S121)) (cv := cvCommit) (z := z116) (fun k xs acc i => by
      simp only [laws_toCommitS.l0, Option.bind_assoc, Option.bind_some]
      rfl) l (by omega) (fun x hx => Ev.bind (toCommit_ev x (hf x hx)) (Ev.now _)) _ (by simp)
theorem eqCommitS_ev (l : List S121) (h : l.length ≤ 1048576) (hf : ∀ x, x ∈ l → x.f0.length ≤ 1048576 ∧ x.f1.length ≤ 1048576) : Ev (fun k => laws_eqCommitS.f k l l) true := by
  refine Ev.congr (f := fun k => laws_eqCommitS.l0 k l l 0) (fun k => ?_) ?_
  · unfold laws_eqCommitS.f
    rw [if_pos rfl]
  · exact ev_refl_loop (L := laws_eqCommitS.l0) (g := fun k x y => laws_eqCommit.f k x.f0 x.f1 y.f0 y.f1) (z := z121) (fun _ _ _ _ => rfl) l (by omega) (fun x hx => by
      unfold laws_eqCommit.f
      refine Ev.bind (eqIntS_ev _ (hf x hx).1) ?_
      simp only [if_true]
      refine Ev.bind (eqEntryS_ev _ (hf x hx).2) ?_
      simp only [if_true]
      exact Ev.now _)
theorem fit_cv {l : List S116} (hf : ∀ x, x ∈ l → fitC x) : ∀ x, x ∈ l.map cvCommit → x.f0.length ≤ 1048576 ∧ x.f1.length ≤ 1048576 := by
  intro x hx
  obtain ⟨y, hy, rfl⟩ := List.mem_map.mp hx
  exact ⟨(hf y hy).1, by simpa [cvCommit] using (hf y hy).2⟩
end Go.Proofs.Ytmkgkinhbahlmaa.Q
end

section
namespace Go.Proofs.Ytmkgkinhbahlmaa.Pure
open Go.RowKit Go.Proofs.Ytmkgkinhbahlmaa.Q Go.Proofs.YtmkgkinhbahlmaaW.PrintWords Go.Proofs.YtmkgkinhbahlmaaW.PrintLast
theorem FnExactStoreOK : laws_FnExactStoreOK.Pure := by
  intro l0 w0
  refine Ev.rounds ?_
  unfold laws_FnExactStoreOK.f
  obtain ⟨r, hr, hrl, hrs⟩ := szCommitS_ev l0 w0.1 w0.2 1048576 (by omega) (by omega)
  refine Ev.bind hr ?_
  by_cases hn : r < 0
  · simp only [hn, if_true]
    exact Ev.now _
  simp only [hn, if_false]
  obtain ⟨hl, hf⟩ := hrs (by omega)
  have ht := toCommitS_ev l0 hl hf
  have hf2 := fit_cv hf
  have hl2 : (l0.map cvCommit).length ≤ 1048576 := by simpa using hl
  refine Ev.bind ht (Ev.bind (a := storeB (l0.map cvCommit)) ?_ (Ev.bind ht (Ev.bind (storeOK_ev _ hl2 (fun x hx => (hf2 x hx).2)) ?_)))
  · unfold spec_StoreOK.f
    by_cases h : ((l0.map cvCommit).length : Int) > 4096
    · have e : storeB (l0.map cvCommit) = false := by
        unfold storeB inB
        rw [decide_eq_false (show ¬ ((l0.map cvCommit).length : Int) ≤ 60 by omega), Bool.and_false, Bool.false_and]
      simp only [h, if_true, e]
      exact Ev.now _
    · simp only [h, if_false]
      exact Ev.bind (l03OK_ev _) (Ev.now _)
  · simp only [bne_self_eq_false, Bool.false_eq_true, if_false]
    refine Ev.bind ht (Ev.bind (eqCommitS_ev _ hl2 hf2) ?_)
    simp only [if_true]
    exact Ev.now _
end Go.Proofs.Ytmkgkinhbahlmaa.Pure
end
