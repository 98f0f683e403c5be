/- Parts of the proof of the law FnExactDiffSnaps, joined into one text. -/
import Derived.Test.YtblejbgkcgajgaaGreatMFnExactDiffSnaps3
section
namespace Go.Proofs.YtblejbgkcgajgaaGreat.Q
open Go.RowKit Go.Proofs.YtblejbgkcgajgaaGreatW.PrintWords Go.Proofs.YtblejbgkcgajgaaGreatW.PrintLast Go.Proofs.YtblejbgkcgajgaaGreatW.PrintMore
attribute [local go_sem] max2_int min2_int max_two min_two max_three min_three max_four min_four   -- for this text's walks alone
set_option linter.unusedVariables false
set_option linter.unusedSimpArgs false
attribute [local go_sem] bin_leq bin_gtr bin_geq
mutual
def impl_RefsOK.j0 : Nat → List (S92) → Bool → Option (Bool)
 | 0, _, _ => none
 | k + 1, x0, x12 => if x12 = true then (some false) else (impl_RefsOK.l0 k x0 x0 (x0.length : Int) 0)
def impl_RefsOK.l0 : Nat → List (S92) → List (S92) → Int → Int → Option (Bool)
 | 0, _, _, _, _ => none
 | k + 1, x0, x13, x14, x15 => if x15 < x14 then (if 0 ≤ x15 then (if x15 < (x13.length : Int) then (if x15 ≤ (x0.length : Int) then ((impl_place.f (x0.take (x15 : Int).toNat) ((rd_T92 x13 x15).f0)).bind fun t280 => (if t280 ≥ 0 then (some false) else (impl_RefsOK.l0 k x0 x13 x14 (wrap64 (x15 + 1))))) else (none)) else (none)) else (none)) else (some true)
end
def impl_RefsOK.f (k : Nat) (l0 : List (S92)) : Option (Bool) := if (l0.length : Int) > 8 then (impl_RefsOK.j0 k l0 true) else ((areAllRef_isRef.f l0).bind fun t273 => (impl_RefsOK.j0 k l0 (!t273)))
set_option maxHeartbeats 8000000 in
set_option maxRecDepth 100000 in
theorem impl_RefsOK.calls (k : Nat) (A0 : Option Addr) (c0 : Nat) (l0 : List (S92)) (r : Bool) (w : World) (hr0 : Kd.C k92 w A0 l0.length l0) (hc0 : l0.length ≤ c0) (h : impl_RefsOK.f k l0 = some r) :
  Calls Tryz.prog 82 #[.slice A0 l0.length c0] w fun e w' => e = .returned (.bool r) ∧ Below w.heap.size w w' := by
 have hu92 := Tryz.underlying92
 have HR0 := Aside0.mk hr0
 have HC0 := Aside0.mk hc0
 clear hr0 hc0
 have HB := Aside0.mk (Below.refl w.heap.size w)
 have H : (if (l0.length : Int) > 8 then (impl_RefsOK.j0 k l0 true) else ((areAllRef_isRef.f l0).bind fun t273 => (impl_RefsOK.j0 k l0 (!t273)))) = some r := h
 clear h
 have HC2 := Aside0.mk H
 clear H
 go_enter Tryz.func82, Tryz.ntmps82
 go_upto_region 1 with (fail)
 go_cut [12] (fun v12 wc => ∃ (kq : Nat) (x12_1 : Bool), v12 = .bool x12_1 ∧ Aside0 (impl_RefsOK.j0 kq l0 x12_1 = some r) ∧ Aside0 (kq ≤ k) ∧ Aside0 (Below w.heap.size w wc))
 case first =>
  have H := HC2.out
  clear HC2
  by_cases c3 : (l0.length : Int) > 8
  ·rw [if_pos c3] at H
   have c3b0 : decide (8 < (l0.length : Int)) = true := decide_eq_true c3
   have c3b1 : decide (8 < l0.length) = true := decide_eq_true (by omega)
   clear c3
   (first | rw [c3b0] | (simp only [i64_w, i32_w]; rw [c3b0]) | skip)
   have H' := Aside0.mk H
   clear H
   go_wp2
   go_meet
   case rel => exact ⟨_, (true), vE, H', ⟨by first | omega | exact Nat.le_refl _⟩, ⟨bW⟩⟩
  ·rw [if_neg c3] at H
   have c3b0 : decide (8 < (l0.length : Int)) = false := decide_eq_false c3
   have c3b1 : decide (8 < l0.length) = false := decide_eq_false (by omega)
   clear c3
   (first | rw [c3b0] | (simp only [i64_w, i32_w]; rw [c3b0]) | skip)
   replace H := Option.bind_eq_some_iff.mp H
   obtain ⟨t273, A40, H⟩ := H
   replace H : (impl_RefsOK.j0 k l0 (!t273)) = some r := H
   have A4 := Aside0.mk A40
   clear A40
   have H' := Aside0.mk H
   clear H
   go_wp2_with (first | (go_at_call 83; (with_reducible refine (areAllRef_isRef.calls _ _ l0 t273 _ ?side1 ?side2 A4.out).mono ?_); (case side1 => exact cB HR0); (case side2 => exact HC0.out); rintro e w5 ⟨rfl, hb⟩; have n0_ := Aside0.mk (below_step (w := w) bW hb); clear HB; have HB := n0_; clear n0_; (try clear hb); (try clear hb2); (try clear hk); (try clear hi)))
   go_meet
   case rel => exact ⟨_, (!t273), vE, H', ⟨by first | omega | exact Nat.le_refl _⟩, ⟨bW⟩⟩
 case rest =>
  clear HC2
  try clear p2
  try clear c3
  try clear c3b0
  try clear c3b1
  obtain ⟨kq, x12_1, rfl, HA, HJ1, HB⟩ := hcut
  cases kq with
  | zero => exact absurd HA.out (by simp [impl_RefsOK.j0])
  | succ kj1 =>
   have H := HA.out
   clear HA
   simp only [impl_RefsOK.j0] at H
   by_cases c6 : x12_1 = true
   ·subst c6
    have H1 : (some false) = some r := by rw [if_pos rfl] at H; exact H
    clear H
    have H := H1
    clear H1
    obtain rfl := Option.some.inj H
    go_wp2
    go_ret
    exact ⟨rE, bW⟩
   ·replace c6 := Bool.eq_false_iff.mpr c6
    subst c6
    have H1 : (impl_RefsOK.l0 kj1 l0 l0 (l0.length : Int) 0) = some r := by rw [if_neg (show ¬ (false = true) by decide)] at H; exact H
    clear H
    have H := H1
    clear H1
    have H' := Aside0.mk H
    clear H
    go_wp2
    go_loopg [15] kj1 (fun kq v15 w' => ∃ (x15_2 : Int), v15 = .int .i64 x15_2 ∧ Aside0 (impl_RefsOK.l0 kq l0 l0 (l0.length : Int) x15_2 = some r) ∧ Aside0 (kq ≤ kj1) ∧ Aside0 (Below w.heap.size w w'))
    case atStart => exact ⟨(0), vE, H', ⟨Nat.le_refl _⟩, ⟨bW⟩⟩
    case round =>
     clear H'
     try clear p2
     try clear c3
     try clear c3b0
     try clear c3b1
     try clear c6
     try clear p2
     obtain ⟨x15_2, rfl, HA, HK2, HB⟩ := hrel
     cases gk with
     | zero => exact absurd HA.out (by simp [impl_RefsOK.l0])
     | succ k2 =>
      have H := HA.out
      clear HA
      simp only [impl_RefsOK.l0] at H
      by_cases c7 : x15_2 < (l0.length : Int)
      ·rw [if_pos c7] at H
       have c7b0 : decide (x15_2 < (l0.length : Int)) = true := decide_eq_true c7
       clear c7
       by_cases c8 : 0 ≤ x15_2
       ·rw [if_pos c8] at H
        have c8b0 : decide (0 ≤ x15_2) = true := decide_eq_true c8
        clear c8
        by_cases c9 : x15_2 < (l0.length : Int)
        ·rw [if_pos c9] at H
         have c9b0 : decide (x15_2 < (l0.length : Int)) = true := decide_eq_true c9
         clear c9
         have c10b0 := eq_true (odt : 0 ≤ x15_2)
         by_cases c11 : x15_2 ≤ (l0.length : Int)
         ·rw [if_pos c11] at H
          have c11b0 := eq_true c11
          have c11b1 : decide (x15_2 ≤ (l0.length : Int)) = true := decide_eq_true c11
          clear c11
          obtain ⟨y276, hy276⟩ : ∃ y_ : List (S92), y_ = (l0.take (x15_2 : Int).toNat) := ⟨_, rfl⟩
          replace H : ((impl_place.f y276 ((rd_T92 l0 x15_2).f0)).bind fun t280 => (if t280 ≥ 0 then (some false) else (impl_RefsOK.l0 k2 l0 l0 (l0.length : Int) (wrap64 (x15_2 + 1))))) = some r := by first | (rw [hy276]; with_reducible exact H) | (have H2_ := (Option.bind_some _ _).symm.trans H; rw [hy276]; with_reducible exact H2_) | (have H2_ := (Option.bind_some _ _).symm.trans H; with_reducible exact H2_) | with_reducible exact H | (rw [hy276]; exact H) | exact H
          have Ny276 := Aside0.mk hy276
          clear hy276
          replace H := Option.bind_eq_some_iff.mp H
          obtain ⟨t280, A120, H⟩ := H
          replace H : (if t280 ≥ 0 then (some false) else (impl_RefsOK.l0 k2 l0 l0 (l0.length : Int) (wrap64 (x15_2 + 1)))) = some r := H
          have A12 := Aside0.mk A120
          clear A120
          by_cases c13 : t280 ≥ 0
          ·rw [if_pos c13] at H
           have c13b0 : decide (0 ≤ t280) = true := decide_eq_true c13
           clear c13
           obtain rfl := Option.some.inj H
           have p274 : 0 ≤ (x15_2 : Int) := odt
           have q274 : x15_2 < (l0.length : Int) := odt
           obtain ⟨ad274, e274, hx274_0, hx274_1, hx274_2, hx274_3⟩ := at_T92 HR0.out x15_2 p274 q274
           cases e274
           replace hx274_0 := (HB.out.cell (World.block_lt_of_cell? w _ hx274_0)).trans hx274_0
           replace hx274_1 := (HB.out.cell (World.block_lt_of_cell? w _ hx274_1)).trans hx274_1
           replace hx274_2 := (HB.out.cell (World.block_lt_of_cell? w _ hx274_2)).trans hx274_2
           replace hx274_3 := (HB.out.cell (World.block_lt_of_cell? w _ hx274_3)).trans hx274_3
           replace p274 := eq_true p274
           replace q274 := eq_true q274
           try go_wp2_with (first | ((with_reducible refine gate_dst (N := 4) rfl ?_); refine bE (N := 4) (cs := #[.string (⟨#[]⟩ : ByteArray), .int .i64 0, .int .i64 0, .bool false]) (t := 92) ?_; intro gb275 hg w14 hbox hb; have n0_ := Aside0.mk (below_step (w := w) bW hb); have n1_ := Aside0.mk (hbox); have n2_ := Aside0.mk (gS (w := w) hg); have n3_ := n2_; clear HB; have HB := n0_; have BK275 := n1_; have GW275 := n2_; have GE275 := n3_; clear n0_ n1_ n2_ n3_; clear hb hbox hg; obtain ⟨hcz15_0, hcz15_1, hcz15_2, hcz15_3⟩ := cz4 BK275; obtain ⟨hfz15_0, hfz15_1, hfz15_2, hfz15_3⟩ := fz4 BK275))
           have n0_ : Aside0 (((((w14.setCell ⟨gb275, 0, none⟩ (.string ((rd_T92 l0 x15_2).f0))).setCell ⟨gb275, 1, none⟩ (.int .i64 ((rd_T92 l0 x15_2).f1))).setCell ⟨gb275, 2, none⟩ (.int .i64 ((rd_T92 l0 x15_2).f2))).setCell ⟨gb275, 3, none⟩ (.bool ((rd_T92 l0 x15_2).f3))).heap[gb275]? = some (.cells #[.string ((rd_T92 l0 x15_2).f0), .int .i64 ((rd_T92 l0 x15_2).f1), .int .i64 ((rd_T92 l0 x15_2).f2), .bool ((rd_T92 l0 x15_2).f3)] 92 (0, 0))) := ⟨by (with_reducible repeat (first | refine blk_drewN ?_ _ | refine blk_drew ?_ | refine blk_alloc ?_ _)); refine blk_put (cs := #[.string ((rd_T92 l0 x15_2).f0), .int .i64 ((rd_T92 l0 x15_2).f1), .int .i64 ((rd_T92 l0 x15_2).f2), .bool false]) ?_ 3 _ rfl; (with_reducible repeat (first | refine blk_drewN ?_ _ | refine blk_drew ?_ | refine blk_alloc ?_ _)); refine blk_put (cs := #[.string ((rd_T92 l0 x15_2).f0), .int .i64 ((rd_T92 l0 x15_2).f1), .int .i64 0, .bool false]) ?_ 2 _ rfl; (with_reducible repeat (first | refine blk_drewN ?_ _ | refine blk_drew ?_ | refine blk_alloc ?_ _)); refine blk_put (cs := #[.string ((rd_T92 l0 x15_2).f0), .int .i64 0, .int .i64 0, .bool false]) ?_ 1 _ rfl; (with_reducible repeat (first | refine blk_drewN ?_ _ | refine blk_drew ?_ | refine blk_alloc ?_ _)); refine blk_put (cs := #[.string (⟨#[]⟩ : ByteArray), .int .i64 0, .int .i64 0, .bool false]) ?_ 0 _ rfl; (with_reducible repeat (first | refine blk_drewN ?_ _ | refine blk_drew ?_ | refine blk_alloc ?_ _)); exact BK275.out⟩
           have n1_ : Aside0 (Below w.heap.size w ((((w14.setCell ⟨gb275, 0, none⟩ (.string ((rd_T92 l0 x15_2).f0))).setCell ⟨gb275, 1, none⟩ (.int .i64 ((rd_T92 l0 x15_2).f1))).setCell ⟨gb275, 2, none⟩ (.int .i64 ((rd_T92 l0 x15_2).f2))).setCell ⟨gb275, 3, none⟩ (.bool ((rd_T92 l0 x15_2).f3)))) := ⟨bW⟩
           (try clear BK275)
           (try clear HB)
           generalize ((((w14.setCell ⟨gb275, 0, none⟩ (.string ((rd_T92 l0 x15_2).f0))).setCell ⟨gb275, 1, none⟩ (.int .i64 ((rd_T92 l0 x15_2).f1))).setCell ⟨gb275, 2, none⟩ (.int .i64 ((rd_T92 l0 x15_2).f2))).setCell ⟨gb275, 3, none⟩ (.bool ((rd_T92 l0 x15_2).f3))) = w16 at n0_ n1_ ⊢
           have BK275 := n0_
           have HB := n1_
           clear n0_ n1_
           have n0_ := Aside0.mk (blk_drew BK275.out)
           have n1_ := Aside0.mk (below_drew1 HB.out)
           clear BK275
           clear HB
           have BK275 := n0_
           have HB := n1_
           clear n0_ n1_
           have q18 : (x15_2 : Int) ≤ ((l0.length : Int) : Int) := odt
           obtain ⟨i018, hi018, _, hsz18, _⟩ := info_parts info92
           have hroom18 : l0.length ≤ c0 := HC0.out
           have hC18 : Kd.C k92 _ (some ad274) l0.length l0 := HR0.out
           have hcut18 := cut_to (P := Tryz.prog) 34 92 .i64 Tryz.underlying34 hi018 (some ad274) l0.length c0 x15_2 (odt) q18 hroom18
           have hr18 := Kd.C_take (m := (x15_2 : Int).toNat) hC18 (by omega)
           have hy18 : y276.length = (x15_2 : Int).toNat := (by rw [Ny276.out, List.length_take]; omega)
           rw [← Ny276.out] at hr18
           rw [← hy18] at hcut18
           have HR279 := Aside0.mk hr18
           have HC279 := Aside0.mk (show y276.length ≤ c0 from by omega)
           clear hr18 hC18 hroom18 hi018 hsz18
           have KY18 := Aside0.mk hy18
           clear hy18
           replace q18 := eq_true q18
           refine start_ (n := 7) (S := fun w' => w'.cell? ⟨gb275, 0, none⟩ = some (.string ((rd_T92 l0 x15_2).f0)) ∧ w'.cell? ⟨gb275, 1, none⟩ = some (.int .i64 ((rd_T92 l0 x15_2).f1)) ∧ w'.cell? ⟨gb275, 2, none⟩ = some (.int .i64 ((rd_T92 l0 x15_2).f2)) ∧ w'.cell? ⟨gb275, 3, none⟩ = some (.bool ((rd_T92 l0 x15_2).f3))) (ds := []) #[false, false, false, false, false, false, false] (by kernel_rfl) rfl rfl ⟨(blk_cell BK275.out 0).trans rfl, (blk_cell BK275.out 1).trans rfl, (blk_cell BK275.out 2).trans rfl, (blk_cell BK275.out 3).trans rfl⟩ (fun hHeld => ?_)
           generalize w16.drew = w17 at BK275 HB HR279 hHeld ⊢
           refine pure_ (i := 0) (N := some 20) (v := ?_) (a' := ?_) #[true, false, false, false, false, false, false] rfl rfl (by kernel_rfl) (fun _ _ _ h => h) (Or.inl ⟨by rfl, ?_⟩) ?_ ?_
           rotate_left
           ·intro w'
            go_simp
            with_reducible rfl
           rotate_left
           ·simp only [Act.put, List.setIfInBounds_toArray, List.set_cons_zero, List.set_cons_succ, i64_w, i32_w]
            rfl
           refine pure_ (i := 1) (N := some 21) (v := ?_) (a' := ?_) #[true, true, false, false, false, false, false] rfl rfl (by kernel_rfl) (fun _ _ _ h => h) (Or.inl ⟨by rfl, ?_⟩) ?_ ?_
           rotate_left
           ·intro w'
            go_simp
            with_reducible rfl
           rotate_left
           ·simp only [Act.put, List.setIfInBounds_toArray, List.set_cons_zero, List.set_cons_succ, i64_w, i32_w]
            rfl
           refine pure_ (i := 2) (N := some 22) (v := ?_) (a' := ?_) #[true, true, true, false, false, false, false] rfl rfl (by kernel_rfl) (fun _ _ _ h => h) (Or.inl ⟨by rfl, ?_⟩) ?_ ?_
           rotate_left
           ·intro w'
            go_simp
            with_reducible rfl
           rotate_left
           ·simp only [Act.put, List.setIfInBounds_toArray, List.set_cons_zero, List.set_cons_succ, i64_w, i32_w]
            rfl
           refine pure_ (i := 3) (N := some 23) (v := ?_) (a' := ?_) #[true, true, true, true, false, false, false] rfl rfl (by kernel_rfl) (fun _ _ _ h => h) (Or.inl ⟨by rfl, ?_⟩) ?_ ?_
           rotate_left
           ·intro w'
            go_simp
            with_reducible rfl
           rotate_left
           ·simp only [Act.put, List.setIfInBounds_toArray, List.set_cons_zero, List.set_cons_succ, i64_w, i32_w]
            rfl
           refine take_ (i := 4) (N := some 24) (v := ?_) (a' := ?_) #[true, true, true, true, true, false, false] rfl rfl (by kernel_rfl) (fun _ _ _ h => h) (Or.inl ⟨by rfl, ?_⟩) hHeld ?_ ?_
           rotate_left
           ·rintro w' ⟨s0, s1, s2, s3⟩
            go_simp
            with_reducible rfl
           rotate_left
           ·simp only [Act.put, List.setIfInBounds_toArray, List.set_cons_zero, List.set_cons_succ, i64_w, i32_w]
            rfl
           refine one_ (i := 5) (N := some 25) #[true, true, true, true, true, true, false] rfl rfl (by kernel_rfl) (by decide) (fun K hK => ?_)
           refine goes_ Tryz.func106 (by kernel_rfl) rfl #[.slice (some ad274) y276.length c0, .string ((rd_T92 l0 x15_2).f0)] (by rfl) rfl rfl gA ?_
           with_reducible refine (impl_place.calls _ _ y276 ((rd_T92 l0 x15_2).f0) t280 _ ?side1 ?side2 A12.out).mono ?_
           (case side1 => exact cB HR279)
           (case side2 => exact HC279.out)
           rintro e w19 ⟨rfl, hb⟩
           refine ⟨_, rfl, ?_⟩
           have n0_ := Aside0.mk (kb BK275 hb)
           have n1_ := Aside0.mk (below_step (w := w) bW hb)
           clear BK275
           clear HB
           have BK275 := n0_
           have HB := n1_
           clear n0_ n1_
           (try clear hb)
           (try clear hb2)
           (try clear hk)
           (try clear hi)
           refine hK.out _ _ ⟨(blk_cell BK275.out 0).trans rfl, (blk_cell BK275.out 1).trans rfl, (blk_cell BK275.out 2).trans rfl, (blk_cell BK275.out 3).trans rfl⟩ (fun hHeld => ?_)
           clear hK K
           refine norm_ (a' := ?_) ?_ ?_
           rotate_left
           ·show Act.put _ (some 25) _ = _
            simp only [Act.put, List.setIfInBounds_toArray, List.set_cons_zero, List.set_cons_succ, i64_w, i32_w]
            rfl
           refine pure_ (i := 6) (N := some 26) (v := ?_) (a' := ?_) #[true, true, true, true, true, true, true] rfl rfl (by kernel_rfl) (fun _ _ _ h => h) (Or.inl ⟨by rfl, ?_⟩) ?_ ?_
           rotate_left
           ·intro w'
            go_simp
            with_reducible rfl
           rotate_left
           ·simp only [Act.put, List.setIfInBounds_toArray, List.set_cons_zero, List.set_cons_succ, i64_w, i32_w]
            rfl
           refine done_ (by kernel_rfl) ?_
           try go_wp2
           go_ret
           exact ⟨rE, bW⟩
          ·rw [if_neg c13] at H
           have c13b0 : decide (0 ≤ t280) = false := decide_eq_false c13
           clear c13
           have H' := Aside0.mk H
           clear H
           have p274 : 0 ≤ (x15_2 : Int) := odt
           have q274 : x15_2 < (l0.length : Int) := odt
           obtain ⟨ad274, e274, hx274_0, hx274_1, hx274_2, hx274_3⟩ := at_T92 HR0.out x15_2 p274 q274
           cases e274
           replace hx274_0 := (HB.out.cell (World.block_lt_of_cell? w _ hx274_0)).trans hx274_0
           replace hx274_1 := (HB.out.cell (World.block_lt_of_cell? w _ hx274_1)).trans hx274_1
           replace hx274_2 := (HB.out.cell (World.block_lt_of_cell? w _ hx274_2)).trans hx274_2
           replace hx274_3 := (HB.out.cell (World.block_lt_of_cell? w _ hx274_3)).trans hx274_3
           replace p274 := eq_true p274
           replace q274 := eq_true q274
           try go_wp2_with (first | ((with_reducible refine gate_dst (N := 4) rfl ?_); refine bE (N := 4) (cs := #[.string (⟨#[]⟩ : ByteArray), .int .i64 0, .int .i64 0, .bool false]) (t := 92) ?_; intro gb275 hg w20 hbox hb; have n0_ := Aside0.mk (below_step (w := w) bW hb); have n1_ := Aside0.mk (hbox); have n2_ := Aside0.mk (gS (w := w) hg); have n3_ := n2_; clear HB; have HB := n0_; have BK275 := n1_; have GW275 := n2_; have GE275 := n3_; clear n0_ n1_ n2_ n3_; clear hb hbox hg; obtain ⟨hcz21_0, hcz21_1, hcz21_2, hcz21_3⟩ := cz4 BK275; obtain ⟨hfz21_0, hfz21_1, hfz21_2, hfz21_3⟩ := fz4 BK275))
           have n0_ : Aside0 (((((w20.setCell ⟨gb275, 0, none⟩ (.string ((rd_T92 l0 x15_2).f0))).setCell ⟨gb275, 1, none⟩ (.int .i64 ((rd_T92 l0 x15_2).f1))).setCell ⟨gb275, 2, none⟩ (.int .i64 ((rd_T92 l0 x15_2).f2))).setCell ⟨gb275, 3, none⟩ (.bool ((rd_T92 l0 x15_2).f3))).heap[gb275]? = some (.cells #[.string ((rd_T92 l0 x15_2).f0), .int .i64 ((rd_T92 l0 x15_2).f1), .int .i64 ((rd_T92 l0 x15_2).f2), .bool ((rd_T92 l0 x15_2).f3)] 92 (0, 0))) := ⟨by (with_reducible repeat (first | refine blk_drewN ?_ _ | refine blk_drew ?_ | refine blk_alloc ?_ _)); refine blk_put (cs := #[.string ((rd_T92 l0 x15_2).f0), .int .i64 ((rd_T92 l0 x15_2).f1), .int .i64 ((rd_T92 l0 x15_2).f2), .bool false]) ?_ 3 _ rfl; (with_reducible repeat (first | refine blk_drewN ?_ _ | refine blk_drew ?_ | refine blk_alloc ?_ _)); refine blk_put (cs := #[.string ((rd_T92 l0 x15_2).f0), .int .i64 ((rd_T92 l0 x15_2).f1), .int .i64 0, .bool false]) ?_ 2 _ rfl; (with_reducible repeat (first | refine blk_drewN ?_ _ | refine blk_drew ?_ | refine blk_alloc ?_ _)); refine blk_put (cs := #[.string ((rd_T92 l0 x15_2).f0), .int .i64 0, .int .i64 0, .bool false]) ?_ 1 _ rfl; (with_reducible repeat (first | refine blk_drewN ?_ _ | refine blk_drew ?_ | refine blk_alloc ?_ _)); refine blk_put (cs := #[.string (⟨#[]⟩ : ByteArray), .int .i64 0, .int .i64 0, .bool false]) ?_ 0 _ rfl; (with_reducible repeat (first | refine blk_drewN ?_ _ | refine blk_drew ?_ | refine blk_alloc ?_ _)); exact BK275.out⟩
           have n1_ : Aside0 (Below w.heap.size w ((((w20.setCell ⟨gb275, 0, none⟩ (.string ((rd_T92 l0 x15_2).f0))).setCell ⟨gb275, 1, none⟩ (.int .i64 ((rd_T92 l0 x15_2).f1))).setCell ⟨gb275, 2, none⟩ (.int .i64 ((rd_T92 l0 x15_2).f2))).setCell ⟨gb275, 3, none⟩ (.bool ((rd_T92 l0 x15_2).f3)))) := ⟨bW⟩
           (try clear BK275)
           (try clear HB)
           generalize ((((w20.setCell ⟨gb275, 0, none⟩ (.string ((rd_T92 l0 x15_2).f0))).setCell ⟨gb275, 1, none⟩ (.int .i64 ((rd_T92 l0 x15_2).f1))).setCell ⟨gb275, 2, none⟩ (.int .i64 ((rd_T92 l0 x15_2).f2))).setCell ⟨gb275, 3, none⟩ (.bool ((rd_T92 l0 x15_2).f3))) = w22 at n0_ n1_ ⊢
           have BK275 := n0_
           have HB := n1_
           clear n0_ n1_
           have n0_ := Aside0.mk (blk_drew BK275.out)
           have n1_ := Aside0.mk (below_drew1 HB.out)
           clear BK275
           clear HB
           have BK275 := n0_
           have HB := n1_
           clear n0_ n1_
           have q24 : (x15_2 : Int) ≤ ((l0.length : Int) : Int) := odt
           obtain ⟨i024, hi024, _, hsz24, _⟩ := info_parts info92
           have hroom24 : l0.length ≤ c0 := HC0.out
           have hC24 : Kd.C k92 _ (some ad274) l0.length l0 := HR0.out
           have hcut24 := cut_to (P := Tryz.prog) 34 92 .i64 Tryz.underlying34 hi024 (some ad274) l0.length c0 x15_2 (odt) q24 hroom24
           have hr24 := Kd.C_take (m := (x15_2 : Int).toNat) hC24 (by omega)
           have hy24 : y276.length = (x15_2 : Int).toNat := (by rw [Ny276.out, List.length_take]; omega)
           rw [← Ny276.out] at hr24
           rw [← hy24] at hcut24
           have HR279 := Aside0.mk hr24
           have HC279 := Aside0.mk (show y276.length ≤ c0 from by omega)
           clear hr24 hC24 hroom24 hi024 hsz24
           have KY24 := Aside0.mk hy24
           clear hy24
           replace q24 := eq_true q24
           refine start_ (n := 7) (S := fun w' => w'.cell? ⟨gb275, 0, none⟩ = some (.string ((rd_T92 l0 x15_2).f0)) ∧ w'.cell? ⟨gb275, 1, none⟩ = some (.int .i64 ((rd_T92 l0 x15_2).f1)) ∧ w'.cell? ⟨gb275, 2, none⟩ = some (.int .i64 ((rd_T92 l0 x15_2).f2)) ∧ w'.cell? ⟨gb275, 3, none⟩ = some (.bool ((rd_T92 l0 x15_2).f3))) (ds := []) #[false, false, false, false, false, false, false] (by kernel_rfl) rfl rfl ⟨(blk_cell BK275.out 0).trans rfl, (blk_cell BK275.out 1).trans rfl, (blk_cell BK275.out 2).trans rfl, (blk_cell BK275.out 3).trans rfl⟩ (fun hHeld => ?_)
           generalize w22.drew = w23 at BK275 HB HR279 hHeld ⊢
           refine pure_ (i := 0) (N := some 20) (v := ?_) (a' := ?_) #[true, false, false, false, false, false, false] rfl rfl (by kernel_rfl) (fun _ _ _ h => h) (Or.inl ⟨by rfl, ?_⟩) ?_ ?_
           rotate_left
           ·intro w'
            go_simp
            with_reducible rfl
           rotate_left
           ·simp only [Act.put, List.setIfInBounds_toArray, List.set_cons_zero, List.set_cons_succ, i64_w, i32_w]
            rfl
           refine pure_ (i := 1) (N := some 21) (v := ?_) (a' := ?_) #[true, true, false, false, false, false, false] rfl rfl (by kernel_rfl) (fun _ _ _ h => h) (Or.inl ⟨by rfl, ?_⟩) ?_ ?_
           rotate_left
           ·intro w'
            go_simp
            with_reducible rfl
           rotate_left
           ·simp only [Act.put, List.setIfInBounds_toArray, List.set_cons_zero, List.set_cons_succ, i64_w, i32_w]
            rfl
           refine pure_ (i := 2) (N := some 22) (v := ?_) (a' := ?_) #[true, true, true, false, false, false, false] rfl rfl (by kernel_rfl) (fun _ _ _ h => h) (Or.inl ⟨by rfl, ?_⟩) ?_ ?_
           rotate_left
           ·intro w'
            go_simp
            with_reducible rfl
           rotate_left
           ·simp only [Act.put, List.setIfInBounds_toArray, List.set_cons_zero, List.set_cons_succ, i64_w, i32_w]
            rfl
           refine pure_ (i := 3) (N := some 23) (v := ?_) (a' := ?_) #[true, true, true, true, false, false, false] rfl rfl (by kernel_rfl) (fun _ _ _ h => h) (Or.inl ⟨by rfl, ?_⟩) ?_ ?_
           rotate_left
           ·intro w'
            go_simp
            with_reducible rfl
           rotate_left
           ·simp only [Act.put, List.setIfInBounds_toArray, List.set_cons_zero, List.set_cons_succ, i64_w, i32_w]
            rfl
           refine take_ (i := 4) (N := some 24) (v := ?_) (a' := ?_) #[true, true, true, true, true, false, false] rfl rfl (by kernel_rfl) (fun _ _ _ h => h) (Or.inl ⟨by rfl, ?_⟩) hHeld ?_ ?_
           rotate_left
           ·rintro w' ⟨s0, s1, s2, s3⟩
            go_simp
            with_reducible rfl
           rotate_left
           ·simp only [Act.put, List.setIfInBounds_toArray, List.set_cons_zero, List.set_cons_succ, i64_w, i32_w]
            rfl
           refine one_ (i := 5) (N := some 25) #[true, true, true, true, true, true, false] rfl rfl (by kernel_rfl) (by decide) (fun K hK => ?_)
           refine goes_ Tryz.func106 (by kernel_rfl) rfl #[.slice (some ad274) y276.length c0, .string ((rd_T92 l0 x15_2).f0)] (by rfl) rfl rfl gA ?_
           with_reducible refine (impl_place.calls _ _ y276 ((rd_T92 l0 x15_2).f0) t280 _ ?side1 ?side2 A12.out).mono ?_
           (case side1 => exact cB HR279)
           (case side2 => exact HC279.out)
           rintro e w25 ⟨rfl, hb⟩
           refine ⟨_, rfl, ?_⟩
           have n0_ := Aside0.mk (kb BK275 hb)
           have n1_ := Aside0.mk (below_step (w := w) bW hb)
           clear BK275
           clear HB
           have BK275 := n0_
           have HB := n1_
           clear n0_ n1_
           (try clear hb)
           (try clear hb2)
           (try clear hk)
           (try clear hi)
           refine hK.out _ _ ⟨(blk_cell BK275.out 0).trans rfl, (blk_cell BK275.out 1).trans rfl, (blk_cell BK275.out 2).trans rfl, (blk_cell BK275.out 3).trans rfl⟩ (fun hHeld => ?_)
           clear hK K
           refine norm_ (a' := ?_) ?_ ?_
           rotate_left
           ·show Act.put _ (some 25) _ = _
            simp only [Act.put, List.setIfInBounds_toArray, List.set_cons_zero, List.set_cons_succ, i64_w, i32_w]
            rfl
           refine pure_ (i := 6) (N := some 26) (v := ?_) (a' := ?_) #[true, true, true, true, true, true, true] rfl rfl (by kernel_rfl) (fun _ _ _ h => h) (Or.inl ⟨by rfl, ?_⟩) ?_ ?_
           rotate_left
           ·intro w'
            go_simp
            with_reducible rfl
           rotate_left
           ·simp only [Act.put, List.setIfInBounds_toArray, List.set_cons_zero, List.set_cons_succ, i64_w, i32_w]
            rfl
           refine done_ (by kernel_rfl) ?_
           try go_wp2
           go_roundg k2
           case measure => have := HJ1.out; have := HK2.out; omega
           case rel => exact ⟨(wrap64 (x15_2 + 1)), vE, H', ⟨by have := HJ1.out; have := HK2.out; omega⟩, ⟨bW⟩⟩
         ·rw [if_neg c11] at H
          exact absurd H (by simp)
        ·rw [if_neg c9] at H
         exact absurd H (by simp)
       ·rw [if_neg c8] at H
        exact absurd H (by simp)
      ·rw [if_neg c7] at H
       have c7b0 : decide (x15_2 < (l0.length : Int)) = false := decide_eq_false c7
       clear c7
       obtain rfl := Option.some.inj H
       go_wp2
       go_ret
       exact ⟨rE, bW⟩
end Go.Proofs.YtblejbgkcgajgaaGreat.Q
end

section
namespace Go.Proofs.YtblejbgkcgajgaaGreat.Q
open Go.RowKit Go.Proofs.YtblejbgkcgajgaaGreatW.PrintWords Go.Proofs.YtblejbgkcgajgaaGreatW.PrintLast Go.Proofs.YtblejbgkcgajgaaGreatW.PrintMore
attribute [local go_sem] max2_int min2_int max_two min_two max_three min_three max_four min_four   -- for this text's walks alone
set_option linter.unusedVariables false
set_option linter.unusedSimpArgs false
attribute [local go_sem] bin_leq bin_gtr bin_geq
def areAllRef_baseOK.f (l0 : List (S92)) (l1_0 : List (S64)) (l1_1 : List (S92)) : Option (Bool) := some (l0.all (fun x => decide (x.f1 ≤ (l1_0.length : Int))))
theorem baseOK_asks (A1 A2 : Option Addr) (c1 n c2 m : Nat) (B : Nat) (l : List S92) (w : World) (hB : B < w.heap.size) (hc : w.cell? ⟨B, 0, none⟩ = some (.slice A1 n c1)) :
    Asks_Ref 84 #[.pointer (some ⟨B, 0, none⟩)] (fun x => decide (x.f1 ≤ (n : Int))) w l := by
  intro W x hW hx
  have hc' : W.cell? ⟨B, 0, none⟩ = some (.slice A1 n c1) := (hW.cell (p := ⟨B, 0, none⟩) hB).trans hc
  have hB' : B < W.heap.size := Nat.lt_of_lt_of_le hB hW.size
  have HBX : Below W.heap.size W (W.alloc (.cells #[.string x.f0, .int .i64 x.f1, .int .i64 x.f2, .bool x.f3] 92)) := (Below.refl _ _).alloc (Nat.le_refl _) _
  have hcb : (W.alloc (.cells #[.string x.f0, .int .i64 x.f1, .int .i64 x.f2, .bool x.f3] 92)).cell? ⟨B, 0, none⟩ = some (.slice A1 n c1) := (HBX.cell (p := ⟨B, 0, none⟩) hB').trans hc'
  have HBA := Aside0.mk HBX
  clear hx hW hc HBX hB
  go_enter Tryz.func84, Tryz.ntmps84
  go_wp2
  repeat (go_quiet (fail); try go_wp2)
  go_ret
  exact ⟨rfl, by repeat (first | exact HBA.out | apply pw_below_drewN)⟩
theorem areAllRef_baseOK.calls (A0 : Option Addr) (c0 : Nat) (l0 : List (S92)) (A1_0 : Option Addr) (c1_0 : Nat) (l1_0 : List (S64)) (A1_1 : Option Addr) (c1_1 : Nat) (l1_1 : List (S92)) {B : Nat} (r : Bool) (w : World) (hr0 : Kd.C k92 w A0 l0.length l0) (hc0 : l0.length ≤ c0) (hr1_0 : Kd.C k64 w A1_0 l1_0.length l1_0) (hc1_0 : l1_0.length ≤ c1_0) (hr1_1 : Kd.C k92 w A1_1 l1_1.length l1_1) (hc1_1 : l1_1.length ≤ c1_1) (hk : w.heap[B]? = some (.cells #[.slice A1_0 l1_0.length c1_0, .slice A1_1 l1_1.length c1_1] 36 (0, 0))) (h : areAllRef_baseOK.f l0 l1_0 l1_1 = some r) :
    Calls Tryz.prog 83 #[.slice A0 l0.length c0, .func (.func 84) #[] #[.pointer (some ⟨B, 0, none⟩)]] w fun e w' => e = .returned (.bool r) ∧ Below w.heap.size w w' := by
  obtain rfl := Option.some.inj h
  exact allF_Ref 84 #[.pointer (some ⟨B, 0, none⟩)] (enters_ Tryz.func84 (by kernel_rfl) rfl) _ A0 c0 l0 w hr0 hc0 (baseOK_asks A1_0 A1_1 c1_0 l1_0.length c1_1 l1_1.length B l0 w (blk_lt hk) ((blk_cell hk 0).trans rfl))
end Go.Proofs.YtblejbgkcgajgaaGreat.Q
end

section
namespace Go.Proofs.YtblejbgkcgajgaaGreat.Q
open Go.RowKit Go.Proofs.YtblejbgkcgajgaaGreatW.PrintWords Go.Proofs.YtblejbgkcgajgaaGreatW.PrintLast Go.Proofs.YtblejbgkcgajgaaGreatW.PrintMore
attribute [local go_sem] max2_int min2_int max_two min_two max_three min_three max_four min_four   -- for this text's walks alone
set_option linter.unusedVariables false
set_option linter.unusedSimpArgs false
attribute [local go_sem] bin_leq bin_gtr bin_geq
def impl_BaseOK.f (k : Nat) (l0_0 : List (S64)) (l0_1 : List (S92)) : Option (Bool) := (impl_StoreOK.f k l0_0).bind fun t282 => (if t282 = true then ((impl_RefsOK.f k l0_1).bind fun t283 => (if t283 = true then ((areAllRef_baseOK.f l0_1 l0_0 l0_1).bind fun t284 => (some t284)) else (some false))) else (some false))
set_option maxHeartbeats 8000000 in
set_option maxRecDepth 100000 in
theorem impl_BaseOK.calls (k : Nat) (A0_0 : Option Addr) (c0_0 : Nat) (l0_0 : List (S64)) (A0_1 : Option Addr) (c0_1 : Nat) (l0_1 : List (S92)) (r : Bool) (w : World) (hr0_0 : Kd.C k64 w A0_0 l0_0.length l0_0) (hc0_0 : l0_0.length ≤ c0_0) (hr0_1 : Kd.C k92 w A0_1 l0_1.length l0_1) (hc0_1 : l0_1.length ≤ c0_1) (h : impl_BaseOK.f k l0_0 l0_1 = some r) :
    Calls Tryz.prog 56 #[.agg #[.slice A0_0 l0_0.length c0_0, .slice A0_1 l0_1.length c0_1]] w fun e w' => e = .returned (.bool r) ∧ Below w.heap.size w w' := by
  have hu36 := Tryz.underlying36
  have HR0_0 := Aside0.mk hr0_0
  have HC0_0 := Aside0.mk hc0_0
  clear hr0_0 hc0_0
  have HR0_1 := Aside0.mk hr0_1
  have HC0_1 := Aside0.mk hc0_1
  clear hr0_1 hc0_1
  have HB := Aside0.mk (Below.refl w.heap.size w)
  have H : ((impl_StoreOK.f k l0_0).bind fun t282 => (if t282 = true then ((impl_RefsOK.f k l0_1).bind fun t283 => (if t283 = true then ((areAllRef_baseOK.f l0_1 l0_0 l0_1).bind fun t284 => (some t284)) else (some false))) else (some false))) = some r := h
  clear h
  replace H := Option.bind_eq_some_iff.mp H
  obtain ⟨t282, A20, H⟩ := H
  replace H : (if t282 = true then ((impl_RefsOK.f k l0_1).bind fun t283 => (if t283 = true then ((areAllRef_baseOK.f l0_1 l0_0 l0_1).bind fun t284 => (some t284)) else (some false))) else (some false)) = some r := H
  have A2 := Aside0.mk A20
  clear A20
  by_cases c3 : t282 = true
  · subst c3
    have H1 : ((impl_RefsOK.f k l0_1).bind fun t283 => (if t283 = true then ((areAllRef_baseOK.f l0_1 l0_0 l0_1).bind fun t284 => (some t284)) else (some false))) = some r := by rw [if_pos rfl] at H; exact H
    clear H
    have H := H1
    clear H1
    replace H := Option.bind_eq_some_iff.mp H
    obtain ⟨t283, A40, H⟩ := H
    replace H : (if t283 = true then ((areAllRef_baseOK.f l0_1 l0_0 l0_1).bind fun t284 => (some t284)) else (some false)) = some r := H
    have A4 := Aside0.mk A40
    clear A40
    by_cases c5 : t283 = true
    · subst c5
      have H1 : ((areAllRef_baseOK.f l0_1 l0_0 l0_1).bind fun t284 => (some t284)) = some r := by rw [if_pos rfl] at H; exact H
      clear H
      have H := H1
      clear H1
      replace H := Option.bind_eq_some_iff.mp H
      obtain ⟨t284, A60, H⟩ := H
      replace H : (some t284) = some r := H
      have A6 := Aside0.mk A60
      clear A60
      obtain rfl := Option.some.inj H
      go_enter Tryz.func56, Tryz.ntmps56
      go_wp2_with (first | ((with_reducible refine gate_dst (N := 1) rfl ?_); refine bE (N := 1) (cs := #[.slice A0_0 l0_0.length c0_0, .slice A0_1 l0_1.length c0_1]) (t := 36) ?_; intro gb281 hg w7 hbox hb; have n0_ := Aside0.mk (below_step (w := w) bW hb); have n1_ := Aside0.mk (hbox); have n2_ := Aside0.mk (gS (w := w) hg); have n3_ := n2_; clear HB; have HB := n0_; have BK281 := n1_; have GW281 := n2_; have GE281 := n3_; clear n0_ n1_ n2_ n3_; clear hb hbox hg; obtain ⟨hcz8_0, hcz8_1⟩ := cz2 BK281; obtain ⟨hfz8_0, hfz8_1⟩ := fz2 BK281) | ((with_reducible refine gate_callee (f := 72) rfl ?_); refine goesL_ (some 5) rfl rfl Tryz.func72 (by kernel_rfl) rfl #[.slice A0_0 l0_0.length c0_0] rfl gA ?_; (with_reducible refine (impl_StoreOK.calls k _ _ l0_0 true _ ?side1 ?side2 A2.out).mono ?_); (case side1 => exact cB HR0_0); (case side2 => exact HC0_0.out); rintro e w9 ⟨rfl, hb⟩; refine ⟨_, rfl, ?_⟩; have n0_ := Aside0.mk (kb BK281 hb); have n1_ := Aside0.mk (below_step (w := w) bW hb); clear BK281; clear HB; have BK281 := n0_; have HB := n1_; clear n0_ n1_; (try clear hb); (try clear hb2); (try clear hk); (try clear hi); obtain ⟨hcz10_0, hcz10_1⟩ := cz2 BK281; obtain ⟨hfz10_0, hfz10_1⟩ := fz2 BK281) | (go_at_call 82; (with_reducible refine (impl_RefsOK.calls k _ _ l0_1 true _ ?side1 ?side2 A4.out).mono ?_); (case side1 => exact cB HR0_1); (case side2 => exact HC0_1.out); rintro e w11 ⟨rfl, hb⟩; have n0_ := Aside0.mk (kb BK281 hb); have n1_ := Aside0.mk (below_step (w := w) bW hb); clear BK281; clear HB; have BK281 := n0_; have HB := n1_; clear n0_ n1_; (try clear hb); (try clear hb2); (try clear hk); (try clear hi); obtain ⟨hcz12_0, hcz12_1⟩ := cz2 BK281; obtain ⟨hfz12_0, hfz12_1⟩ := fz2 BK281) | (go_at_call 83; (with_reducible refine (areAllRef_baseOK.calls _ _ l0_1 A0_0 c0_0 l0_0 A0_1 c0_1 l0_1 t284 _ ?side1 ?side2 ?side3 ?side4 ?side5 ?side6 ?side7 A6.out).mono ?_); (case side1 => exact cB HR0_1); (case side2 => exact HC0_1.out); (case side3 => exact cB HR0_0); (case side4 => exact HC0_0.out); (case side5 => exact cB HR0_1); (case side6 => exact HC0_1.out); (case side7 => exact (kB BK281)); rintro e w13 ⟨rfl, hb⟩; have n0_ := Aside0.mk (kb BK281 hb); have n1_ := Aside0.mk (below_step (w := w) bW hb); clear BK281; clear HB; have BK281 := n0_; have HB := n1_; clear n0_ n1_; (try clear hb); (try clear hb2); (try clear hk); (try clear hi)))
      go_ret
      exact ⟨rE, bW⟩
    · replace c5 := Bool.eq_false_iff.mpr c5
      subst c5
      have H1 : (some false) = some r := by rw [if_neg (show ¬ (false = true) by decide)] at H; exact H
      clear H
      have H := H1
      clear H1
      obtain rfl := Option.some.inj H
      go_enter Tryz.func56, Tryz.ntmps56
      go_wp2_with (first | ((with_reducible refine gate_dst (N := 1) rfl ?_); refine bE (N := 1) (cs := #[.slice A0_0 l0_0.length c0_0, .slice A0_1 l0_1.length c0_1]) (t := 36) ?_; intro gb281 hg w14 hbox hb; have n0_ := Aside0.mk (below_step (w := w) bW hb); have n1_ := Aside0.mk (hbox); have n2_ := Aside0.mk (gS (w := w) hg); have n3_ := n2_; clear HB; have HB := n0_; have BK281 := n1_; have GW281 := n2_; have GE281 := n3_; clear n0_ n1_ n2_ n3_; clear hb hbox hg; obtain ⟨hcz15_0, hcz15_1⟩ := cz2 BK281; obtain ⟨hfz15_0, hfz15_1⟩ := fz2 BK281) | ((with_reducible refine gate_callee (f := 72) rfl ?_); refine goesL_ (some 5) rfl rfl Tryz.func72 (by kernel_rfl) rfl #[.slice A0_0 l0_0.length c0_0] rfl gA ?_; (with_reducible refine (impl_StoreOK.calls k _ _ l0_0 true _ ?side1 ?side2 A2.out).mono ?_); (case side1 => exact cB HR0_0); (case side2 => exact HC0_0.out); rintro e w16 ⟨rfl, hb⟩; refine ⟨_, rfl, ?_⟩; have n0_ := Aside0.mk (kb BK281 hb); have n1_ := Aside0.mk (below_step (w := w) bW hb); clear BK281; clear HB; have BK281 := n0_; have HB := n1_; clear n0_ n1_; (try clear hb); (try clear hb2); (try clear hk); (try clear hi); obtain ⟨hcz17_0, hcz17_1⟩ := cz2 BK281; obtain ⟨hfz17_0, hfz17_1⟩ := fz2 BK281) | (go_at_call 82; (with_reducible refine (impl_RefsOK.calls k _ _ l0_1 false _ ?side1 ?side2 A4.out).mono ?_); (case side1 => exact cB HR0_1); (case side2 => exact HC0_1.out); rintro e w18 ⟨rfl, hb⟩; have n0_ := Aside0.mk (kb BK281 hb); have n1_ := Aside0.mk (below_step (w := w) bW hb); clear BK281; clear HB; have BK281 := n0_; have HB := n1_; clear n0_ n1_; (try clear hb); (try clear hb2); (try clear hk); (try clear hi)))
      go_ret
      exact ⟨rE, bW⟩
  · replace c3 := Bool.eq_false_iff.mpr c3
    subst c3
    have H1 : (some false) = some r := by rw [if_neg (show ¬ (false = true) by decide)] at H; exact H
    clear H
    have H := H1
    clear H1
    obtain rfl := Option.some.inj H
    go_enter Tryz.func56, Tryz.ntmps56
    go_wp2_with (first | ((with_reducible refine gate_dst (N := 1) rfl ?_); refine bE (N := 1) (cs := #[.slice A0_0 l0_0.length c0_0, .slice A0_1 l0_1.length c0_1]) (t := 36) ?_; intro gb281 hg w19 hbox hb; have n0_ := Aside0.mk (below_step (w := w) bW hb); have n1_ := Aside0.mk (hbox); have n2_ := Aside0.mk (gS (w := w) hg); have n3_ := n2_; clear HB; have HB := n0_; have BK281 := n1_; have GW281 := n2_; have GE281 := n3_; clear n0_ n1_ n2_ n3_; clear hb hbox hg; obtain ⟨hcz20_0, hcz20_1⟩ := cz2 BK281; obtain ⟨hfz20_0, hfz20_1⟩ := fz2 BK281) | ((with_reducible refine gate_callee (f := 72) rfl ?_); refine goesL_ (some 5) rfl rfl Tryz.func72 (by kernel_rfl) rfl #[.slice A0_0 l0_0.length c0_0] rfl gA ?_; (with_reducible refine (impl_StoreOK.calls k _ _ l0_0 false _ ?side1 ?side2 A2.out).mono ?_); (case side1 => exact cB HR0_0); (case side2 => exact HC0_0.out); rintro e w21 ⟨rfl, hb⟩; refine ⟨_, rfl, ?_⟩; have n0_ := Aside0.mk (kb BK281 hb); have n1_ := Aside0.mk (below_step (w := w) bW hb); clear BK281; clear HB; have BK281 := n0_; have HB := n1_; clear n0_ n1_; (try clear hb); (try clear hb2); (try clear hk); (try clear hi)))
    go_ret
    exact ⟨rE, bW⟩
end Go.Proofs.YtblejbgkcgajgaaGreat.Q
end

section
namespace Go.Proofs.YtblejbgkcgajgaaGreat.Q
open Go.RowKit Go.Proofs.YtblejbgkcgajgaaGreatW.PrintWords Go.Proofs.YtblejbgkcgajgaaGreatW.PrintLast Go.Proofs.YtblejbgkcgajgaaGreatW.PrintMore
attribute [local go_sem] max2_int min2_int max_two min_two max_three min_three max_four min_four   -- for this text's walks alone
set_option linter.unusedVariables false
set_option linter.unusedSimpArgs false
attribute [local go_sem] bin_leq bin_gtr bin_geq
def impl_SnapOK.f (k : Nat) (l0_0 : List (S64)) (l0_1 : List (S92)) (a1_0 : ByteArray) (a1_1 : Int) : Option (Bool) := (impl_BaseOK.f k l0_0 l0_1).bind fun t287 => (if t287 = true then ((impl_NameOK.f a1_0).bind fun t288 => (if t288 = true then ((impl_within.f a1_1 1 (l0_0.length : Int)).bind fun t289 => (some t289)) else (some false))) else (some false))
set_option maxHeartbeats 8000000 in
set_option maxRecDepth 100000 in
theorem impl_SnapOK.calls (k : Nat) (A0_0 : Option Addr) (c0_0 : Nat) (l0_0 : List (S64)) (A0_1 : Option Addr) (c0_1 : Nat) (l0_1 : List (S92)) (a1_0 : ByteArray) (a1_1 : Int) (r : Bool) (w : World) (hr0_0 : Kd.C k64 w A0_0 l0_0.length l0_0) (hc0_0 : l0_0.length ≤ c0_0) (hr0_1 : Kd.C k92 w A0_1 l0_1.length l0_1) (hc0_1 : l0_1.length ≤ c0_1) (h : impl_SnapOK.f k l0_0 l0_1 a1_0 a1_1 = some r) :
    Calls Tryz.prog 33 #[.agg #[.slice A0_0 l0_0.length c0_0, .slice A0_1 l0_1.length c0_1], .agg #[.string a1_0, .int .i64 a1_1]] w fun e w' => e = .returned (.bool r) ∧ Below w.heap.size w w' := by
  have hu36 := Tryz.underlying36
  have hu38 := Tryz.underlying38
  have HR0_0 := Aside0.mk hr0_0
  have HC0_0 := Aside0.mk hc0_0
  clear hr0_0 hc0_0
  have HR0_1 := Aside0.mk hr0_1
  have HC0_1 := Aside0.mk hc0_1
  clear hr0_1 hc0_1
  have HB := Aside0.mk (Below.refl w.heap.size w)
  have H : ((impl_BaseOK.f k l0_0 l0_1).bind fun t287 => (if t287 = true then ((impl_NameOK.f a1_0).bind fun t288 => (if t288 = true then ((impl_within.f a1_1 1 (l0_0.length : Int)).bind fun t289 => (some t289)) else (some false))) else (some false))) = some r := h
  clear h
  replace H := Option.bind_eq_some_iff.mp H
  obtain ⟨t287, A30, H⟩ := H
  replace H : (if t287 = true then ((impl_NameOK.f a1_0).bind fun t288 => (if t288 = true then ((impl_within.f a1_1 1 (l0_0.length : Int)).bind fun t289 => (some t289)) else (some false))) else (some false)) = some r := H
  have A3 := Aside0.mk A30
  clear A30
  by_cases c4 : t287 = true
  · subst c4
    have H1 : ((impl_NameOK.f a1_0).bind fun t288 => (if t288 = true then ((impl_within.f a1_1 1 (l0_0.length : Int)).bind fun t289 => (some t289)) else (some false))) = some r := by rw [if_pos rfl] at H; exact H
    clear H
    have H := H1
    clear H1
    replace H := Option.bind_eq_some_iff.mp H
    obtain ⟨t288, A50, H⟩ := H
    replace H : (if t288 = true then ((impl_within.f a1_1 1 (l0_0.length : Int)).bind fun t289 => (some t289)) else (some false)) = some r := H
    have A5 := Aside0.mk A50
    clear A50
    by_cases c6 : t288 = true
    · subst c6
      have H1 : ((impl_within.f a1_1 1 (l0_0.length : Int)).bind fun t289 => (some t289)) = some r := by rw [if_pos rfl] at H; exact H
      clear H
      have H := H1
      clear H1
      replace H := Option.bind_eq_some_iff.mp H
      obtain ⟨t289, A70, H⟩ := H
      replace H : (some t289) = some r := H
      have A7 := Aside0.mk A70
      clear A70
      obtain rfl := Option.some.inj H
      go_enter Tryz.func33, Tryz.ntmps33
      go_wp2_with (first | ((with_reducible refine gate_dst (N := 2) rfl ?_); (try (refine gate_guard (by rfl) ?_; dsimp only)); refine bE (N := 2) (cs := #[.slice A0_0 l0_0.length c0_0, .slice A0_1 l0_1.length c0_1]) (t := 36) ?_; intro gb285 hg w8 hbox hb; have n0_ := Aside0.mk (below_step (w := w) bW hb); have n1_ := Aside0.mk (hbox); have n2_ := Aside0.mk (gS (w := w) hg); have n3_ := n2_; clear HB; have HB := n0_; have BK285 := n1_; have GW285 := n2_; have GE285 := n3_; clear n0_ n1_ n2_ n3_; clear hb hbox hg) | ((with_reducible refine gate_dst (N := 3) rfl ?_); (try (refine gate_guard (by rfl) ?_; dsimp only)); refine bE (N := 3) (cs := #[.string a1_0, .int .i64 a1_1]) (t := 38) ?_; intro gb286 hg w9 hbox hb; have n0_ := Aside0.mk (kb BK285 hb); have n1_ := Aside0.mk (below_step (w := w) bW hb); have n2_ := Aside0.mk (hbox); have n3_ := Aside0.mk (gS (w := w) hg); have n4_ := n3_; have n5_ := Aside0.mk (nL BK285 hg); have n6_ := Aside0.mk (nG BK285 hg); clear BK285; clear HB; have BK285 := n0_; have HB := n1_; have BK286 := n2_; have GW286 := n3_; have GE286 := n4_; have NB285_286 := n5_; have NB286_285 := n6_; clear n0_ n1_ n2_ n3_ n4_ n5_ n6_; clear hb hbox hg; have hnb10 := NB285_286.out; have hnc10 := NB286_285.out; obtain ⟨hcz11_0, hcz11_1⟩ := cz2 BK285; obtain ⟨hfz11_0, hfz11_1⟩ := fz2 BK285) | ((with_reducible refine gate_callee (f := 56) rfl ?_); refine goesL_ (some 6) rfl rfl Tryz.func56 (by kernel_rfl) rfl #[.agg #[.slice A0_0 l0_0.length c0_0, .slice A0_1 l0_1.length c0_1]] rfl gA ?_; (with_reducible refine (impl_BaseOK.calls k _ _ l0_0 _ _ l0_1 true _ ?side1 ?side2 ?side3 ?side4 A3.out).mono ?_); (case side1 => exact cB HR0_0); (case side2 => exact HC0_0.out); (case side3 => exact cB HR0_1); (case side4 => exact HC0_1.out); rintro e w12 ⟨rfl, hb⟩; refine ⟨_, rfl, ?_⟩; have n0_ := Aside0.mk (kb BK285 hb); have n1_ := Aside0.mk (kb BK286 hb); have n2_ := Aside0.mk (below_step (w := w) bW hb); clear BK285; clear BK286; clear HB; have BK285 := n0_; have BK286 := n1_; have HB := n2_; clear n0_ n1_ n2_; (try clear hb); (try clear hb2); (try clear hk); (try clear hi); obtain ⟨hcz13_0, hcz13_1⟩ := cz2 BK286; obtain ⟨hfz13_0, hfz13_1⟩ := fz2 BK286) | (go_at_call 57; (with_reducible refine (impl_NameOK.calls a1_0 true _ A5.out).mono ?_); rintro e w14 ⟨rfl, hb⟩; have n0_ := Aside0.mk (kb BK285 hb); have n1_ := Aside0.mk (kb BK286 hb); have n2_ := Aside0.mk (below_step (w := w) bW hb); clear BK285; clear BK286; clear HB; have BK285 := n0_; have BK286 := n1_; have HB := n2_; clear n0_ n1_ n2_; (try clear hb); (try clear hb2); (try clear hk); (try clear hi); obtain ⟨hcz15_0, hcz15_1⟩ := cz2 BK286; obtain ⟨hfz15_0, hfz15_1⟩ := fz2 BK286; obtain ⟨hcz16_0, hcz16_1⟩ := cz2 BK285; obtain ⟨hfz16_0, hfz16_1⟩ := fz2 BK285) | (go_at_call 58; (with_reducible refine (impl_within.calls a1_1 1 (l0_0.length : Int) t289 _ A7.out).mono ?_); rintro e w' ⟨rfl, ⟨nd, rfl⟩⟩))
      go_ret
      exact ⟨rE, bW⟩
    · replace c6 := Bool.eq_false_iff.mpr c6
      subst c6
      have H1 : (some false) = some r := by rw [if_neg (show ¬ (false = true) by decide)] at H; exact H
      clear H
      have H := H1
      clear H1
      obtain rfl := Option.some.inj H
      go_enter Tryz.func33, Tryz.ntmps33
      go_wp2_with (first | ((with_reducible refine gate_dst (N := 2) rfl ?_); (try (refine gate_guard (by rfl) ?_; dsimp only)); refine bE (N := 2) (cs := #[.slice A0_0 l0_0.length c0_0, .slice A0_1 l0_1.length c0_1]) (t := 36) ?_; intro gb285 hg w17 hbox hb; have n0_ := Aside0.mk (below_step (w := w) bW hb); have n1_ := Aside0.mk (hbox); have n2_ := Aside0.mk (gS (w := w) hg); have n3_ := n2_; clear HB; have HB := n0_; have BK285 := n1_; have GW285 := n2_; have GE285 := n3_; clear n0_ n1_ n2_ n3_; clear hb hbox hg) | ((with_reducible refine gate_dst (N := 3) rfl ?_); (try (refine gate_guard (by rfl) ?_; dsimp only)); refine bE (N := 3) (cs := #[.string a1_0, .int .i64 a1_1]) (t := 38) ?_; intro gb286 hg w18 hbox hb; have n0_ := Aside0.mk (kb BK285 hb); have n1_ := Aside0.mk (below_step (w := w) bW hb); have n2_ := Aside0.mk (hbox); have n3_ := Aside0.mk (gS (w := w) hg); have n4_ := n3_; have n5_ := Aside0.mk (nL BK285 hg); have n6_ := Aside0.mk (nG BK285 hg); clear BK285; clear HB; have BK285 := n0_; have HB := n1_; have BK286 := n2_; have GW286 := n3_; have GE286 := n4_; have NB285_286 := n5_; have NB286_285 := n6_; clear n0_ n1_ n2_ n3_ n4_ n5_ n6_; clear hb hbox hg; have hnb19 := NB285_286.out; have hnc19 := NB286_285.out; obtain ⟨hcz20_0, hcz20_1⟩ := cz2 BK285; obtain ⟨hfz20_0, hfz20_1⟩ := fz2 BK285) | ((with_reducible refine gate_callee (f := 56) rfl ?_); refine goesL_ (some 6) rfl rfl Tryz.func56 (by kernel_rfl) rfl #[.agg #[.slice A0_0 l0_0.length c0_0, .slice A0_1 l0_1.length c0_1]] rfl gA ?_; (with_reducible refine (impl_BaseOK.calls k _ _ l0_0 _ _ l0_1 true _ ?side1 ?side2 ?side3 ?side4 A3.out).mono ?_); (case side1 => exact cB HR0_0); (case side2 => exact HC0_0.out); (case side3 => exact cB HR0_1); (case side4 => exact HC0_1.out); rintro e w21 ⟨rfl, hb⟩; refine ⟨_, rfl, ?_⟩; have n0_ := Aside0.mk (kb BK285 hb); have n1_ := Aside0.mk (kb BK286 hb); have n2_ := Aside0.mk (below_step (w := w) bW hb); clear BK285; clear BK286; clear HB; have BK285 := n0_; have BK286 := n1_; have HB := n2_; clear n0_ n1_ n2_; (try clear hb); (try clear hb2); (try clear hk); (try clear hi); obtain ⟨hcz22_0, hcz22_1⟩ := cz2 BK286; obtain ⟨hfz22_0, hfz22_1⟩ := fz2 BK286) | (go_at_call 57; (with_reducible refine (impl_NameOK.calls a1_0 false _ A5.out).mono ?_); rintro e w23 ⟨rfl, hb⟩; have n0_ := Aside0.mk (kb BK285 hb); have n1_ := Aside0.mk (kb BK286 hb); have n2_ := Aside0.mk (below_step (w := w) bW hb); clear BK285; clear BK286; clear HB; have BK285 := n0_; have BK286 := n1_; have HB := n2_; clear n0_ n1_ n2_; (try clear hb); (try clear hb2); (try clear hk); (try clear hi)))
      go_ret
      exact ⟨rE, bW⟩
  · replace c4 := Bool.eq_false_iff.mpr c4
    subst c4
    have H1 : (some false) = some r := by rw [if_neg (show ¬ (false = true) by decide)] at H; exact H
    clear H
    have H := H1
    clear H1
    obtain rfl := Option.some.inj H
    go_enter Tryz.func33, Tryz.ntmps33
    go_wp2_with (first | ((with_reducible refine gate_dst (N := 2) rfl ?_); (try (refine gate_guard (by rfl) ?_; dsimp only)); refine bE (N := 2) (cs := #[.slice A0_0 l0_0.length c0_0, .slice A0_1 l0_1.length c0_1]) (t := 36) ?_; intro gb285 hg w24 hbox hb; have n0_ := Aside0.mk (below_step (w := w) bW hb); have n1_ := Aside0.mk (hbox); have n2_ := Aside0.mk (gS (w := w) hg); have n3_ := n2_; clear HB; have HB := n0_; have BK285 := n1_; have GW285 := n2_; have GE285 := n3_; clear n0_ n1_ n2_ n3_; clear hb hbox hg) | ((with_reducible refine gate_dst (N := 3) rfl ?_); (try (refine gate_guard (by rfl) ?_; dsimp only)); refine bE (N := 3) (cs := #[.string a1_0, .int .i64 a1_1]) (t := 38) ?_; intro gb286 hg w25 hbox hb; have n0_ := Aside0.mk (kb BK285 hb); have n1_ := Aside0.mk (below_step (w := w) bW hb); have n2_ := Aside0.mk (hbox); have n3_ := Aside0.mk (gS (w := w) hg); have n4_ := n3_; have n5_ := Aside0.mk (nL BK285 hg); have n6_ := Aside0.mk (nG BK285 hg); clear BK285; clear HB; have BK285 := n0_; have HB := n1_; have BK286 := n2_; have GW286 := n3_; have GE286 := n4_; have NB285_286 := n5_; have NB286_285 := n6_; clear n0_ n1_ n2_ n3_ n4_ n5_ n6_; clear hb hbox hg; have hnb26 := NB285_286.out; have hnc26 := NB286_285.out; obtain ⟨hcz27_0, hcz27_1⟩ := cz2 BK285; obtain ⟨hfz27_0, hfz27_1⟩ := fz2 BK285) | ((with_reducible refine gate_callee (f := 56) rfl ?_); refine goesL_ (some 6) rfl rfl Tryz.func56 (by kernel_rfl) rfl #[.agg #[.slice A0_0 l0_0.length c0_0, .slice A0_1 l0_1.length c0_1]] rfl gA ?_; (with_reducible refine (impl_BaseOK.calls k _ _ l0_0 _ _ l0_1 false _ ?side1 ?side2 ?side3 ?side4 A3.out).mono ?_); (case side1 => exact cB HR0_0); (case side2 => exact HC0_0.out); (case side3 => exact cB HR0_1); (case side4 => exact HC0_1.out); rintro e w28 ⟨rfl, hb⟩; refine ⟨_, rfl, ?_⟩; have n0_ := Aside0.mk (kb BK285 hb); have n1_ := Aside0.mk (kb BK286 hb); have n2_ := Aside0.mk (below_step (w := w) bW hb); clear BK285; clear BK286; clear HB; have BK285 := n0_; have BK286 := n1_; have HB := n2_; clear n0_ n1_ n2_; (try clear hb); (try clear hb2); (try clear hk); (try clear hi)))
    go_ret
    exact ⟨rE, bW⟩
end Go.Proofs.YtblejbgkcgajgaaGreat.Q
end

section
namespace Go.Proofs.YtblejbgkcgajgaaGreat.Q
open Go.RowKit Go.Proofs.YtblejbgkcgajgaaGreatW.PrintWords Go.Proofs.YtblejbgkcgajgaaGreatW.PrintLast Go.Proofs.YtblejbgkcgajgaaGreatW.PrintMore
attribute [local go_sem] max2_int min2_int max_two min_two max_three min_three max_four min_four   -- for this text's walks alone
set_option linter.unusedVariables false
set_option linter.unusedSimpArgs false
attribute [local go_sem] bin_leq bin_gtr bin_geq
theorem cmp_lt : ∀ (a b : List UInt8), (Lib.compareBytes a b < 0) ↔ Op.bytesLess a b = true
  | [], [] => by simp [Lib.compareBytes, Op.bytesLess]
  | [], _ :: _ => by simp [Lib.compareBytes, Op.bytesLess]
  | _ :: _, [] => by simp [Lib.compareBytes, Op.bytesLess]
  | a :: ra, b :: rb => by
    have ih := cmp_lt ra rb
    unfold Lib.compareBytes
    by_cases h1 : a < b
    · simp [h1, Op.bytesLess]
    · by_cases h2 : b < a
      · have h3 : ¬ a = b := by rintro rfl; exact h1 h2
        simp [h1, h2, h3, Op.bytesLess]
      · have h3 : a = b := UInt8.le_antisymm (UInt8.not_lt.mp h2) (UInt8.not_lt.mp h1)
        subst h3
        simp [h1, Op.bytesLess, ih]
theorem cmp_eq : ∀ (a b : List UInt8), (Lib.compareBytes a b = 0) ↔ a = b
  | [], [] => by simp [Lib.compareBytes]
  | [], _ :: _ => by simp [Lib.compareBytes]
  | _ :: _, [] => by simp [Lib.compareBytes]
  | a :: ra, b :: rb => by
    have ih := cmp_eq ra rb
    unfold Lib.compareBytes
    by_cases h1 : a < b
    · have h3 : ¬ a = b := by rintro rfl; exact absurd h1 (UInt8.lt_irrefl _)
      simp [h1, h3]
    · by_cases h2 : b < a
      · have h3 : ¬ a = b := by rintro rfl; exact h1 h2
        simp [h1, h2, h3]
      · have h3 : a = b := UInt8.le_antisymm (UInt8.not_lt.mp h2) (UInt8.not_lt.mp h1)
        subst h3
        simp [h1, ih]
def cmpB (a b : ByteArray) : Int := Lib.compareBytes a.data.toList b.data.toList
end Go.Proofs.YtblejbgkcgajgaaGreat.Q
end

section
namespace Go.Proofs.YtblejbgkcgajgaaGreat.Q
open Go.RowKit Go.Proofs.YtblejbgkcgajgaaGreatW.PrintWords Go.Proofs.YtblejbgkcgajgaaGreatW.PrintLast Go.Proofs.YtblejbgkcgajgaaGreatW.PrintMore
attribute [local go_sem] max2_int min2_int max_two min_two max_three min_three max_four min_four   -- for this text's walks alone
set_option linter.unusedVariables false
set_option linter.unusedSimpArgs false
attribute [local go_sem] bin_leq bin_gtr bin_geq
def bytealg_CompareString.f (a0 : ByteArray) (a1 : ByteArray) : Option (Int) := some (cmpB a0 a1)
set_option maxHeartbeats 1000000 in
set_option maxRecDepth 100000 in
theorem bytealg_CompareString.calls (a0 : ByteArray) (a1 : ByteArray) (r : Int) (w : World) (h : bytealg_CompareString.f a0 a1 = some r) :
    Calls Tryz.prog 93 #[.string a0, .string a1] w fun e w' => e = .returned (.int .i64 r) ∧ Drawn0 w w' := by
  obtain rfl := Option.some.inj h
  clear h
  go_enter Tryz.func93, Tryz.ntmps93
  go_wp2
  rw [run_callFunc_extern Tryz.func121 (by kernel_rfl) (by kernel_rfl) (by kernel_rfl) (e := Extern.BytealgCompare.compare) (by kernel_rfl), Lib.run_compareString]
  simp only [Result.andThen]
  rw [Oper.upon_value]
  go_wp2
  go_ret
  exact ⟨rfl, Drawn0.refl _⟩
end Go.Proofs.YtblejbgkcgajgaaGreat.Q
end

section
namespace Go.Proofs.YtblejbgkcgajgaaGreat.Q
open Go.RowKit Go.Proofs.YtblejbgkcgajgaaGreatW.PrintWords Go.Proofs.YtblejbgkcgajgaaGreatW.PrintLast Go.Proofs.YtblejbgkcgajgaaGreatW.PrintMore
attribute [local go_sem] max2_int min2_int max_two min_two max_three min_three max_four min_four   -- for this text's walks alone
set_option linter.unusedVariables false
set_option linter.unusedSimpArgs false
attribute [local go_sem] bin_leq bin_gtr bin_geq
def strings_Compare.f (a0 : ByteArray) (a1 : ByteArray) : Option (Int) := (bytealg_CompareString.f a0 a1).bind fun t290 => (some t290)
set_option maxHeartbeats 8000000 in
set_option maxRecDepth 100000 in
theorem strings_Compare.calls (a0 : ByteArray) (a1 : ByteArray) (r : Int) (w : World) (h : strings_Compare.f a0 a1 = some r) :
    Calls Tryz.prog 62 #[.string a0, .string a1] w fun e w' => e = .returned (.int .i64 r) ∧ Drawn0 w w' := by
  have H : ((bytealg_CompareString.f a0 a1).bind fun t290 => (some t290)) = some r := h
  clear h
  replace H := Option.bind_eq_some_iff.mp H
  obtain ⟨t290, A30, H⟩ := H
  replace H : (some t290) = some r := H
  have A3 := Aside0.mk A30
  clear A30
  obtain rfl := Option.some.inj H
  go_enter Tryz.func62, Tryz.ntmps62
  go_wp2_with (first | ((with_reducible refine gate_callee (f := 93) rfl ?_); refine goesL_ (some 7) rfl rfl Tryz.func93 (by kernel_rfl) rfl #[.string a0, .string a1] rfl gA ?_; (with_reducible refine (bytealg_CompareString.calls a0 a1 t290 _ A3.out).mono ?_); rintro e w' ⟨rfl, ⟨nd, rfl⟩⟩; refine ⟨_, rfl, ?_⟩))
  go_ret
  exact ⟨by first | rfl | (simp; done) | (simp [*]; done), by repeat (first | exact Drawn0.refl _ | apply Drawn0.step)⟩
end Go.Proofs.YtblejbgkcgajgaaGreat.Q
end

section
namespace Go.Proofs.YtblejbgkcgajgaaGreat.Q
open Go.RowKit Go.Proofs.YtblejbgkcgajgaaGreatW.PrintWords Go.Proofs.YtblejbgkcgajgaaGreatW.PrintLast Go.Proofs.YtblejbgkcgajgaaGreatW.PrintMore
attribute [local go_sem] max2_int min2_int max_two min_two max_three min_three max_four min_four   -- for this text's walks alone
set_option linter.unusedVariables false
set_option linter.unusedSimpArgs false
attribute [local go_sem] bin_leq bin_gtr bin_geq
def Cmps_Entry (g : Nat) (lb : Array Value) (tv : Value) (c : S84 → Int) (w : World) (l : List S84) : Prop :=
  ∀ (W : World) (x : S84), Below w.heap.size w W → x ∈ l → Calls Tryz.prog g (#[.agg #[.string x.f0, .int .i64 x.f1], tv] ++ lb) W fun e w' => e = .returned (.int .i64 (c x)) ∧ Below W.heap.size W w'
def cntN (c : S84 → Int) (l : List S84) : Nat := l.countP (fun x => decide (c x < 0))
def fndB (c : S84 → Int) (l : List S84) : Bool := match l[cntN c l]? with | some x => c x == 0 | none => false
theorem cntN_is {c : S84 → Int} : ∀ (l : List S84) (i : Nat), i ≤ l.length → (∀ t (ht : t < l.length), t < i → c l[t] < 0) → (∀ t (ht : t < l.length), i ≤ t → 0 ≤ c l[t]) → cntN c l = i
  | [], i, hi, _, _ => by
    have : i = 0 := by simpa using hi
    rw [this]; rfl
  | a :: r, 0, _, _, h2 => by
    unfold cntN
    rw [List.countP_eq_zero]
    intro x hx
    obtain ⟨t, ht, rfl⟩ := List.getElem_of_mem hx
    have := h2 t ht (Nat.zero_le _)
    simp; omega
  | a :: r, i + 1, hi, h1, h2 => by
    have ha : decide (c a < 0) = true := decide_eq_true (h1 0 (by simp) (by omega))
    have ih := cntN_is r i (by simpa using hi) (fun t ht h => h1 (t + 1) (by simp; omega) (by omega)) (fun t ht h => h2 (t + 1) (by simp; omega) (by omega))
    unfold cntN at ih ⊢
    rw [List.countP_cons_of_pos (p := fun x => decide (c x < 0)) ha, ih]
set_option maxHeartbeats 4000000 in
set_option maxRecDepth 1000000 in
theorem bsF_Entry (g : Nat) (lb : Array Value) (eg : ∀ args w, (callFunc g args).run Tryz.prog w = .ok (.enter g args) w) (tv : Value) (c : S84 → Int) (A0 : Option Addr) (c0 : Nat) (l0 : List S84) (w : World) (hr0 : Kd.C k84 w A0 l0.length l0) (hc0 : l0.length ≤ c0) (hp : Cmps_Entry g lb tv c w l0)
    (hsz : l0.length < 4611686018427387904) (hmono : ∀ a b (hb : b < l0.length) (hab : a ≤ b), c l0[b] < 0 → c (l0[a]'(by omega)) < 0) :
    Calls Tryz.prog 89 #[.slice A0 l0.length c0, tv, .func (.func g) #[] lb] w fun e w' => e = .returned (.tuple #[.int .i64 (cntN c l0 : Nat), .bool (fndB c l0)]) ∧ Below w.heap.size w w' := by
  have HR0 := Aside0.mk hr0
  have HP := Aside0.mk hp
  have M := Aside0.mk hmono
  clear hr0 hc0 hp hmono
  go_enter Tryz.func89, Tryz.ntmps89
  go_wp2
  go_loopg [9, 10] l0.length (fun kx s9 s10 w' => ∃ lo hi : Nat, s9 = .int .i64 lo ∧ s10 = .int .i64 hi ∧ lo ≤ hi ∧ hi ≤ l0.length ∧ hi - lo ≤ kx ∧ Aside0 (Below w.heap.size w w') ∧
    Aside0 ((∀ t (ht : t < l0.length), t < lo → c l0[t] < 0) ∧ (∀ t (ht : t < l0.length), hi ≤ t → 0 ≤ c l0[t])))
  case atStart => exact ⟨0, l0.length, rfl, rfl, Nat.zero_le _, Nat.le_refl _, by omega, ⟨Below.refl _ _⟩, ⟨⟨fun t ht h => absurd h (Nat.not_lt_zero _), fun t ht h => by omega⟩⟩⟩
  case round =>
    obtain ⟨lo, hi, rfl, rfl, hlh, hin, hg, HB, I⟩ := hrel
    by_cases hlt : lo < hi
    · have HRW := Aside0.mk (Kd.C_below HR0.out HB.out)
      have hm : (lo + hi) / 2 < l0.length := by omega
      have p0 : (0 : Int) ≤ ((lo : Int) + (hi : Int)) / 2 := by omega
      have p1 : ((lo : Int) + (hi : Int)) / 2 < (l0.length : Int) := by omega
      have em : (((lo : Int) + (hi : Int)) / 2).toNat = (lo + hi) / 2 := by omega
      obtain ⟨ad, e1, hx0, hx1⟩ := at_T84 HRW.out (((lo : Int) + (hi : Int)) / 2) p0 p1
      cases e1
      have ex : rd_T84 l0 (((lo : Int) + (hi : Int)) / 2) = l0[(lo + hi) / 2] := by unfold rd_T84; rw [em]; simp [List.getD_eq_getElem?_getD, List.getElem?_eq_getElem hm]
      rw [ex, em] at hx0 hx1
      have hcall := HP.out _ l0[(lo + hi) / 2] HB.out (List.getElem_mem hm)
      obtain ⟨y, hy⟩ : ∃ y, y = l0[(lo + hi) / 2] := ⟨_, rfl⟩
      rw [← hy] at hx0 hx1 hcall
      have HY := Aside0.mk hy
      clear hy ex em
      have HC := Aside0.mk hcall
      clear hcall
      by_cases hyx : c y < 0
      · go_wp2_with ((with_reducible refine HC.out.mono ?_); rintro e w' ⟨rfl, hb'⟩)
        go_roundg (hi - ((lo + hi) / 2 + 1))
        case measure => omega
        case rel =>
          refine ⟨(lo + hi) / 2 + 1, hi, by go_num, rfl, by omega, hin, Nat.le_refl _, ⟨below_then HB.out HB.out.size hb'⟩, ⟨⟨fun t ht h => ?_, I.out.2⟩⟩⟩
          exact M.out t ((lo + hi) / 2) hm (by omega) (by rw [← HY.out]; exact hyx)
      · have hyx' : 0 ≤ c y := by omega
        go_wp2_with ((with_reducible refine HC.out.mono ?_); rintro e w' ⟨rfl, hb'⟩)
        go_roundg ((lo + hi) / 2 - lo)
        case measure => omega
        case rel =>
          refine ⟨lo, (lo + hi) / 2, rfl, by go_num, by omega, by omega, Nat.le_refl _, ⟨below_then HB.out HB.out.size hb'⟩, ⟨⟨I.out.1, fun t ht h => ?_⟩⟩⟩
          rcases Int.lt_or_le (c l0[t]) 0 with h3 | h3
          · have := M.out ((lo + hi) / 2) t ht h h3
            rw [← HY.out] at this
            omega
          · exact h3
    · obtain rfl : lo = hi := by omega
      have CN := Aside0.mk (cntN_is l0 lo hin I.out.1 I.out.2)
      by_cases hlen : lo < l0.length
      · have HRW := Aside0.mk (Kd.C_below HR0.out HB.out)
        have p1 : (lo : Int) < (l0.length : Int) := by omega
        have p0 : (0 : Int) ≤ (lo : Int) := by omega
        obtain ⟨ad, e1, hx0, hx1⟩ := at_T84 HRW.out (lo : Int) p0 p1
        cases e1
        have ex : rd_T84 l0 (lo : Int) = l0[lo] := by simp [rd_T84, List.getD_eq_getElem?_getD, List.getElem?_eq_getElem hlen]
        rw [ex] at hx0 hx1
        simp only [Int.toNat_natCast] at hx0 hx1
        have hcall := HP.out _ l0[lo] HB.out (List.getElem_mem hlen)
        have FN := Aside0.mk (show fndB c l0 = (c l0[lo] == 0) by unfold fndB; rw [CN.out, List.getElem?_eq_getElem hlen])
        obtain ⟨y, hy⟩ : ∃ y, y = l0[lo] := ⟨_, rfl⟩
        rw [← hy] at hx0 hx1 hcall
        have FN2 := Aside0.mk (show fndB c l0 = (c y == 0) by rw [FN.out, hy])
        clear hy ex FN
        have HC := Aside0.mk hcall
        clear hcall
        go_wp2_with ((with_reducible refine HC.out.mono ?_); rintro e w' ⟨rfl, hb'⟩)
        go_ret2
        exact ⟨by rw [CN.out, FN2.out]; rfl, below_then HB.out HB.out.size hb'⟩
      · obtain rfl : lo = l0.length := by omega
        have FN := Aside0.mk (show fndB c l0 = false by unfold fndB; rw [CN.out, List.getElem?_eq_none (Nat.le_refl _)])
        go_wp2
        go_ret2
        exact ⟨by rw [CN.out, FN.out]; rfl, HB.out⟩
end Go.Proofs.YtblejbgkcgajgaaGreat.Q
end

section
namespace Go.Proofs.YtblejbgkcgajgaaGreat.Q
open Go.RowKit Go.Proofs.YtblejbgkcgajgaaGreatW.PrintWords Go.Proofs.YtblejbgkcgajgaaGreatW.PrintLast Go.Proofs.YtblejbgkcgajgaaGreatW.PrintMore
attribute [local go_sem] max2_int min2_int max_two min_two max_three min_three max_four min_four   -- for this text's walks alone
set_option linter.unusedVariables false
set_option linter.unusedSimpArgs false
attribute [local go_sem] bin_leq bin_gtr bin_geq
def RiseP (l : List S84) : Prop := l.Pairwise (fun a b => sblt a.f0 b.f0 = true)
instance (l : List S84) : Decidable (RiseP l) := by unfold RiseP; infer_instance
def cmpK (k : ByteArray) (x : S84) : Int := cmpB x.f0 k
theorem cmpK_lt (k : ByteArray) (x : S84) : cmpK k x < 0 ↔ sblt x.f0 k = true := by
  unfold cmpK cmpB sblt
  rw [cmp_lt, ByteArray.toList_eq, ByteArray.toList_eq]
theorem cmpK_mono {l : List S84} (h : RiseP l) (k : ByteArray) : ∀ a b (hb : b < l.length) (hab : a ≤ b), cmpK k l[b] < 0 → cmpK k (l[a]'(by omega)) < 0 := by
  intro a b hb hab h1
  rw [cmpK_lt] at h1 ⊢
  rcases Nat.lt_or_eq_of_le hab with h2 | h2
  · exact sblt_trans (List.pairwise_iff_getElem.mp h a b (by omega) hb h2) h1
  · subst h2; exact h1
end Go.Proofs.YtblejbgkcgajgaaGreat.Q
end

section
namespace Go.Proofs.YtblejbgkcgajgaaGreat.Q
open Go.RowKit Go.Proofs.YtblejbgkcgajgaaGreatW.PrintWords Go.Proofs.YtblejbgkcgajgaaGreatW.PrintLast Go.Proofs.YtblejbgkcgajgaaGreatW.PrintMore
attribute [local go_sem] max2_int min2_int max_two min_two max_three min_three max_four min_four   -- for this text's walks alone
set_option linter.unusedVariables false
set_option linter.unusedSimpArgs false
attribute [local go_sem] bin_leq bin_gtr bin_geq
def bs_find.f (l0 : List (S84)) (a1 : ByteArray) : Option (Int × Bool) := if RiseP l0 then (if l0.length < 4611686018427387904 then some ((cntN (cmpK a1) l0 : Nat), fndB (cmpK a1) l0) else none) else none
theorem find_asks (k : ByteArray) (l : List S84) (w : World) : Cmps_Entry 90 #[] (.string k) (cmpK k) w l := by
  intro W x hW hx
  have HBA := Aside0.mk (show Below W.heap.size W (W.alloc (.cells #[.string x.f0, .int .i64 x.f1] 84)) from (Below.refl _ _).alloc (Nat.le_refl _) _)
  have A2 := Aside0.mk (show strings_Compare.f x.f0 k = some (cmpK k x) from rfl)
  clear hx hW
  go_enter Tryz.func90, Tryz.ntmps90
  go_wp2_with (go_at_call 62; (with_reducible refine (strings_Compare.calls _ _ _ _ A2.out).mono ?_); rintro e w' ⟨rfl, ⟨n, rfl⟩⟩)
  go_ret
  exact ⟨rfl, by repeat (first | exact HBA.out | apply pw_below_drewN)⟩
theorem bs_find.calls (A0 : Option Addr) (c0 : Nat) (l0 : List (S84)) (a1 : ByteArray) (r1 : Int) (r2 : Bool) (w : World) (hr0 : Kd.C k84 w A0 l0.length l0) (hc0 : l0.length ≤ c0) (h : bs_find.f l0 a1 = some (r1, r2)) :
    Calls Tryz.prog 89 #[.slice A0 l0.length c0, .string a1, .func (.func 90) #[] #[]] w fun e w' => e = .returned (.tuple #[.int .i64 r1, .bool r2]) ∧ Below w.heap.size w w' := by
  unfold bs_find.f at h
  by_cases h0 : RiseP l0
  · rw [if_pos h0] at h
    by_cases h1 : l0.length < 4611686018427387904
    · rw [if_pos h1] at h
      have e := Option.some.inj h
      obtain rfl : _ = r1 := congrArg Prod.fst e
      obtain rfl : _ = r2 := congrArg Prod.snd e
      exact bsF_Entry 90 #[] (enters_ Tryz.func90 (by kernel_rfl) rfl) (.string a1) (cmpK a1) A0 c0 l0 w hr0 hc0 (find_asks a1 l0 w) h1 (cmpK_mono h0 a1)
    · rw [if_neg h1] at h
      cases h
  · rw [if_neg h0] at h
    cases h
end Go.Proofs.YtblejbgkcgajgaaGreat.Q
end

section
namespace Go.Proofs.YtblejbgkcgajgaaGreat.Q
open Go.RowKit Go.Proofs.YtblejbgkcgajgaaGreatW.PrintWords Go.Proofs.YtblejbgkcgajgaaGreatW.PrintLast Go.Proofs.YtblejbgkcgajgaaGreatW.PrintMore
attribute [local go_sem] max2_int min2_int max_two min_two max_three min_three max_four min_four   -- for this text's walks alone
set_option linter.unusedVariables false
set_option linter.unusedSimpArgs false
attribute [local go_sem] bin_leq bin_gtr bin_geq
def impl_find.f (l0 : List (S84)) (a1 : ByteArray) : Option (Int × Bool) := (bs_find.f l0 a1).bind fun bt291 => (some (bt291.1, bt291.2))
set_option maxHeartbeats 8000000 in
set_option maxRecDepth 100000 in
theorem impl_find.calls (A0 : Option Addr) (c0 : Nat) (l0 : List (S84)) (a1 : ByteArray) (r1 : Int) (r2 : Bool) (w : World) (hr0 : Kd.C k84 w A0 l0.length l0) (hc0 : l0.length ≤ c0) (h : impl_find.f l0 a1 = some (r1, r2)) :
    Calls Tryz.prog 59 #[.slice A0 l0.length c0, .string a1] w fun e w' => e = .returned (.tuple #[.int .i64 r1, .bool r2]) ∧ Below w.heap.size w w' := by
  have HR0 := Aside0.mk hr0
  have HC0 := Aside0.mk hc0
  clear hr0 hc0
  have HB := Aside0.mk (Below.refl w.heap.size w)
  have H : ((bs_find.f l0 a1).bind fun bt291 => (some (bt291.1, bt291.2))) = some (r1, r2) := h
  clear h
  replace H := Option.bind_eq_some_iff.mp H
  obtain ⟨⟨t291, t292⟩, A30, H⟩ := H
  replace H : (some (t291, t292)) = some (r1, r2) := H
  have A3 := Aside0.mk A30
  clear A30
  simp only [Option.some.injEq, Prod.mk.injEq] at H
  obtain ⟨rfl, rfl⟩ := H
  go_enter Tryz.func59, Tryz.ntmps59
  go_wp2_with (first | ((with_reducible refine gate_callee (f := 89) rfl ?_); refine goesL_ (some 8) rfl rfl Tryz.func89 (by kernel_rfl) rfl #[.slice A0 l0.length c0, .string a1, .func (.func 90) #[] #[]] rfl gA ?_; (with_reducible refine (bs_find.calls _ _ l0 a1 t291 t292 _ ?side1 ?side2 A3.out).mono ?_); (case side1 => exact cN HR0); (case side2 => exact HC0.out); rintro e w4 ⟨rfl, hb⟩; refine ⟨_, rfl, ?_⟩; have n0_ := Aside0.mk (below_step (w := w) bW hb); clear HB; have HB := n0_; clear n0_; (try clear hb); (try clear hb2); (try clear hk); (try clear hi)))
  go_ret2
  exact ⟨rE, bW⟩
end Go.Proofs.YtblejbgkcgajgaaGreat.Q
end

section
namespace Go.Proofs.YtblejbgkcgajgaaGreat.Q
open Go Go.RowKit Go.Proofs.YtblejbgkcgajgaaGreatW.PrintWords Go.Proofs.YtblejbgkcgajgaaGreatW.PrintLast
set_option linter.unusedVariables false
set_option linter.unusedSimpArgs false
section
variable {α : Type} {enc : α → List Value} {k : Nat}
theorem flat_len (hk : ∀ x, (enc x).length = k) : ∀ xs : List α, (xs.flatMap enc).length = xs.length * k
  | [] => by simp
  | x :: xs => by rw [List.flatMap_cons, List.length_append, hk, flat_len hk xs, List.length_cons, Nat.add_mul]; omega
theorem flat_drop (hk : ∀ x, (enc x).length = k) : ∀ (xs : List α) (i : Nat), (xs.flatMap enc).drop (i * k) = (xs.drop i).flatMap enc
  | xs, 0 => by simp
  | [], i + 1 => by simp
  | x :: xs, i + 1 => by
    have e : (i + 1) * k = k + i * k := by rw [Nat.add_mul]; omega
    rw [List.flatMap_cons, List.drop_succ_cons, ← flat_drop hk xs i, e, List.drop_append, hk]
    rw [List.drop_eq_nil_of_le (by rw [hk]; omega), List.nil_append, Nat.add_sub_cancel_left]
theorem reps_flat (hk : ∀ x, (enc x).length = k) {xs : List α} {cs : List Value} (h : Reps (fun x c => c = enc x) k xs cs) : cs = xs.flatMap enc := by
  obtain ⟨hl, hr⟩ := h
  induction xs generalizing cs with
  | nil =>
    rw [List.length_nil, Nat.zero_mul] at hl
    rw [List.eq_nil_of_length_eq_zero hl]
    rfl
  | cons x xs ih =>
    have h0 := hr 0 x rfl
    rw [Nat.zero_mul, List.drop_zero] at h0
    have e : cs = cs.take k ++ cs.drop k := (List.take_append_drop k cs).symm
    rw [List.length_cons, Nat.add_mul, Nat.one_mul] at hl
    have h2 := ih (cs := cs.drop k) (by rw [List.length_drop, hl]; omega) (fun j p hj => by
      have h3 := hr (j + 1) p (by simpa using hj)
      rw [List.drop_drop]
      have e2 : k + j * k = (j + 1) * k := by rw [Nat.add_mul]; omega
      rw [e2]
      exact h3)
    rw [e, h0, h2, List.flatMap_cons]
theorem flat_reps (hk : ∀ x, (enc x).length = k) (xs : List α) : Reps (fun x c => c = enc x) k xs (xs.flatMap enc) := by
  refine ⟨flat_len hk xs, fun j p hj => ?_⟩
  obtain ⟨hj2, rfl⟩ := List.getElem?_eq_some_iff.mp hj
  rw [flat_drop hk, List.drop_eq_getElem_cons hj2, List.flatMap_cons, List.take_append, hk]
  rw [List.take_of_length_le (by rw [hk]; omega), Nat.sub_self, List.take_zero, List.append_nil]
variable {d : Kd α} {e base : Nat} {ok : Nat → Prop} {w : World} {v : Value} {xs : List α}
theorem flatR_open (hM : ∀ {w base ok x cs}, d.M w base ok x cs ↔ cs = enc x) (hk : ∀ x, (enc x).length = k) (hsz : d.sz = k) (h : Kd.R d e w base ok v xs) (hp : 0 < xs.length) :
    ∃ g cap cur, v = .slice (some ⟨g, 0, none⟩) xs.length cap ∧ base ≤ g ∧ ok g ∧ w.heap[g]? = some (.cells cur e (0, 0)) ∧ xs.length ≤ cap ∧ cap ≤ maxLen ∧ cur.size = cap * k ∧ cur.toList.take (xs.length * k) = xs.flatMap enc := by
  obtain ⟨h0, inner, ⟨hl, ho⟩, hr⟩ := h
  have e1 := reps_flat (k := d.sz) (fun x => (hk x).trans hsz.symm) (hr.imp_ (fun _ _ hp => hM.mp hp))
  rcases ho with ⟨rfl, hz⟩ | ⟨g, cap, cur, rfl, hb, hg, hn, hm, hs, ht⟩
  · omega
  · subst hsz
    exact ⟨g, cap, cur, rfl, hb, h0 g rfl, hg, hn, hm, hs, ht.trans e1⟩
theorem flatR_mk (hM : ∀ {w base ok x cs}, d.M w base ok x cs ↔ cs = enc x) (hk : ∀ x, (enc x).length = k) (hsz : d.sz = k) {g cap n : Nat} {cur : Array Value} (hn0 : n = xs.length) (hb : base ≤ g) (hok : ok g) (hg : w.heap[g]? = some (.cells cur e (0, 0))) (hn : n ≤ cap) (hm : cap ≤ maxLen) (hs : cur.size = cap * k) (ht : cur.toList.take (n * k) = xs.flatMap enc) :
    Kd.R d e w base ok (.slice (some ⟨g, 0, none⟩) n cap) xs := by
  subst hsz
  subst hn0
  exact ⟨fun j hj => by have : g = j := by simpa [Value.ownBlock] using hj
                        exact this ▸ hok, xs.flatMap enc, ⟨flat_len hk xs, .inr ⟨g, cap, cur, rfl, hb, hg, hn, hm, hs, ht⟩⟩, (flat_reps hk xs).imp_ (fun _ _ h => hM.mpr h)⟩
end
end Go.Proofs.YtblejbgkcgajgaaGreat.Q
end

section
namespace Go.Proofs.YtblejbgkcgajgaaGreat.Q
open Go.RowKit Go.Proofs.YtblejbgkcgajgaaGreatW.PrintWords Go.Proofs.YtblejbgkcgajgaaGreatW.PrintLast Go.Proofs.YtblejbgkcgajgaaGreatW.PrintMore
attribute [local go_sem] max2_int min2_int max_two min_two max_three min_three max_four min_four   -- for this text's walks alone
set_option linter.unusedVariables false
set_option linter.unusedSimpArgs false
attribute [local go_sem] bin_leq bin_gtr bin_geq
def sortEditL_ren : Go.Shelf.Ren := ⟨fun | 6 => 60 | 15 => 92 | 14 => 91 | 28 => 119 | 29 => 120 | 20 => 111 | 21 => 112 | 22 => 113 | 23 => 114 | 24 => 115 | 25 => 116 | 26 => 117 | 27 => 118 | 46 => 131 | 47 => 132 | 48 => 133 | 49 => 134 | 50 => 135 | 57 => 140 | n => n, fun | 22 => 30 | 24 => 68 | 25 => 100 | 3 => 3 | 39 => 125 | 0 => 0 | 53 => 143 | 55 => 145 | 4 => 4 | 46 => 137 | 45 => 136 | 50 => 96 | 5 => 5 | 9 => 9 | 66 => 152 | 70 => 156 | 76 => 159 | 77 => 160 | n => n, fun | n => n⟩
theorem sortEditL : Go.Proofs.SlLaysF0.n6 Tryz.prog sortEditL_ren := {
  mixed := by kernel_rfl
  f6 := ⟨Tryz.f60.name, by decide, Tryz.func60.trans (congrArg some (by kernel_rfl))⟩
  f14 := ⟨Tryz.f91.name, by decide, Tryz.func91.trans (congrArg some (by kernel_rfl))⟩
  f15 := Tryz.func92.trans (congrArg some (by kernel_rfl))
  f20 := ⟨Tryz.f111.name, by decide, Tryz.func111.trans (congrArg some (by kernel_rfl))⟩
  f21 := ⟨Tryz.f112.name, by decide, Tryz.func112.trans (congrArg some (by kernel_rfl))⟩
  f22 := ⟨Tryz.f113.name, by decide, Tryz.func113.trans (congrArg some (by kernel_rfl))⟩
  f23 := ⟨Tryz.f114.name, by decide, Tryz.func114.trans (congrArg some (by kernel_rfl))⟩
  f24 := ⟨Tryz.f115.name, by decide, Tryz.func115.trans (congrArg some (by kernel_rfl))⟩
  f25 := ⟨Tryz.f116.name, by decide, Tryz.func116.trans (congrArg some (by kernel_rfl))⟩
  f26 := ⟨Tryz.f117.name, by decide, Tryz.func117.trans (congrArg some (by kernel_rfl))⟩
  f27 := ⟨Tryz.f118.name, by decide, Tryz.func118.trans (congrArg some (by kernel_rfl))⟩
  f28 := Tryz.func119.trans (congrArg some (by kernel_rfl))
  f29 := Tryz.func120.trans (congrArg some (by kernel_rfl))
  f46 := ⟨Tryz.f131.name, by decide, Tryz.func131.trans (congrArg some (by kernel_rfl))⟩
  f47 := Tryz.func132.trans (congrArg some (by kernel_rfl))
  f48 := Tryz.func133.trans (congrArg some (by kernel_rfl))
  f49 := ⟨Tryz.f134.name, by decide, Tryz.func134.trans (congrArg some (by kernel_rfl))⟩
  f50 := ⟨Tryz.f135.name, by decide, Tryz.func135.trans (congrArg some (by kernel_rfl))⟩
  f57 := ⟨Tryz.f140.name, by decide, Tryz.func140.trans (congrArg some (by kernel_rfl))⟩
  t0 := Tryz.underlying0
  a0 := Tryz.isAgg0
  z0 := Tryz.sizeOf0
  v0 := Tryz.zeroValue0
  t3 := Tryz.underlying3
  a3 := Tryz.isAgg3
  z3 := Tryz.sizeOf3
  v3 := Tryz.zeroValue3
  t4 := Tryz.underlying4
  a4 := Tryz.isAgg4
  z4 := Tryz.sizeOf4
  v4 := Tryz.zeroValue4
  t5 := Tryz.underlying5
  a5 := Tryz.isAgg5
  z5 := Tryz.sizeOf5
  v5 := Tryz.zeroValue5
  t9 := Tryz.underlying9
  a9 := Tryz.isAgg9
  z9 := Tryz.sizeOf9
  v9 := Tryz.zeroValue9
  t22 := Tryz.underlying30
  a22 := Tryz.isAgg30
  z22 := Tryz.sizeOf30
  v22 := Tryz.zeroValue30
  t25 := Tryz.underlying100
  a25 := Tryz.isAgg100
  z25 := Tryz.sizeOf100
  v25 := Tryz.zeroValue100
  t39 := Tryz.underlying125
  a39 := Tryz.isAgg125
  z39 := Tryz.sizeOf125
  v39 := Tryz.zeroValue125
  t45 := Tryz.underlying136
  a45 := Tryz.isAgg136
  z45 := Tryz.sizeOf136
  v45 := Tryz.zeroValue136
  t46 := Tryz.underlying137
  a46 := Tryz.isAgg137
  z46 := Tryz.sizeOf137
  v46 := Tryz.zeroValue137
  t50 := Tryz.underlying96
  a50 := Tryz.isAgg96
  z50 := Tryz.sizeOf96
  v50 := Tryz.zeroValue96
  t53 := Tryz.underlying143
  a53 := Tryz.isAgg143
  z53 := Tryz.sizeOf143
  v53 := Tryz.zeroValue143
  t55 := Tryz.underlying145
  a55 := Tryz.isAgg145
  z55 := Tryz.sizeOf145
  v55 := Tryz.zeroValue145
  t66 := Tryz.underlying152
  a66 := Tryz.isAgg152
  z66 := Tryz.sizeOf152
  v66 := Tryz.zeroValue152
  t70 := Tryz.underlying156
  a70 := Tryz.isAgg156
  z70 := Tryz.sizeOf156
  v70 := Tryz.zeroValue156
  t76 := Tryz.underlying159
  a76 := Tryz.isAgg159
  z76 := Tryz.sizeOf159
  v76 := Tryz.zeroValue159
  t77 := Tryz.underlying160
  a77 := Tryz.isAgg160
  z77 := Tryz.sizeOf160
  v77 := Tryz.zeroValue160 }
instance : Inhabited S68 := ⟨z68⟩
def encD (x : S68) : List Value := [.string x.f0, .int .i64 x.f1, .bool x.f2]
theorem encD_len (x : S68) : (encD x).length = 3 := rfl
theorem ediM {w : World} {base : Nat} {ok : Nat → Prop} {x : S68} {cs : List Value} : k68.M w base ok x cs ↔ cs = encD x :=
  ⟨fun h => k68_openM h, fun h => by rw [h]; exact k68_mkM w base ok x⟩
theorem encD_one : ∀ x : S68, ∀ v ∈ encD x, v.oneCell' = true := by
  intro x v hv
  simp only [encD, List.mem_cons, List.mem_nil_iff, or_false] at hv
  rcases hv with rfl | rfl | rfl <;> rfl
def cmpE (x y : S68) : Int := cmpB x.f0 y.f0
theorem ltE (x y : S68) : Go.Proofs.ltOf cmpE x y = sblt x.f0 y.f0 := by
  unfold Go.Proofs.ltOf
  rw [Bool.eq_iff_iff, decide_eq_true_eq]
  unfold cmpE cmpB sblt
  rw [cmp_lt, ByteArray.toList_eq, ByteArray.toList_eq]
theorem sblt_ntr {x y z : ByteArray} (h1 : sblt x y = false) (h2 : sblt y z = false) : sblt x z = false := by
  cases h3 : sblt x z with
  | false => rfl
  | true =>
    cases h4 : sblt y x with
    | true => rw [sblt_trans h4 h3] at h2; cases h2
    | false =>
      obtain rfl := sblt_tri h1 h4
      rw [h3] at h2
      cases h2
theorem swoE : Go.Sort.SWO (Go.Proofs.ltOf cmpE) := by
  refine ⟨fun x => ?_, fun x y z h1 h2 => ?_, fun x y z h1 h2 => ?_⟩
  · rw [ltE]; exact sblt_irrefl _
  · rw [ltE] at *; exact sblt_trans h1 h2
  · rw [ltE] at *; exact sblt_ntr h1 h2
def sortE (l : List S68) : List S68 := (Go.Sort.pdq (Go.Proofs.ltOf cmpE) l.toArray 0 l.toArray.size (Go.Lib.bitLen l.toArray.size) true true).toList
theorem sortE_is (l : List S68) : (sortE l).Perm l ∧ (sortE l).Pairwise (fun a b => sblt b.f0 a.f0 = false) := by
  obtain ⟨⟨hs, _, hp⟩, ho⟩ := Go.Sort.pdq_sorts (Go.Proofs.ltOf cmpE) swoE l.toArray 0 l.toArray.size (Go.Lib.bitLen l.toArray.size) true true (Nat.zero_le _) (Nat.le_refl _) (Or.inl rfl)
  have e1 : ∀ a : Array S68, a.size = l.toArray.size → a.extract 0 l.toArray.size = a := fun a h => by rw [← h]; exact Array.extract_size
  rw [e1 _ hs, e1 _ rfl] at hp
  refine ⟨hp, ?_⟩
  rw [List.pairwise_iff_getElem]
  intro i j hi hj hij
  have hi' : i < (Go.Sort.pdq (Go.Proofs.ltOf cmpE) l.toArray 0 l.toArray.size (Go.Lib.bitLen l.toArray.size) true true).size := by simpa [sortE] using hi
  have hj' : j < (Go.Sort.pdq (Go.Proofs.ltOf cmpE) l.toArray 0 l.toArray.size (Go.Lib.bitLen l.toArray.size) true true).size := by simpa [sortE] using hj
  have h := ho i j (Nat.zero_le _) hij (by rw [← hs]; exact hj')
  rw [ltE, getElem!_pos _ i hi', getElem!_pos _ j hj'] at h
  simpa [sortE] using h
theorem sortE_len (l : List S68) : (sortE l).length = l.length := (sortE_is l).1.length_eq
theorem flat_get {α : Type} {enc : α → List Value} {k : Nat} (hk : ∀ x, (enc x).length = k) (hk0 : 0 < k) (l : List α) (t : Nat) (ht : t < l.length * k) : (l.flatMap enc)[t]? = (enc (l[t / k]'(Nat.div_lt_of_lt_mul (by rw [Nat.mul_comm]; exact ht))))[t % k]? := by
  have hq : t / k < l.length := Nat.div_lt_of_lt_mul (by rw [Nat.mul_comm]; exact ht)
  have hr : t % k < k := Nat.mod_lt _ hk0
  have e : t = t / k * k + t % k := by rw [Nat.mul_comm]; exact (Nat.div_add_mod t k).symm
  have e2 : (l.flatMap enc)[t]? = ((l.flatMap enc).drop (t / k * k))[t % k]? := by rw [List.getElem?_drop, ← e]
  rw [e2, flat_drop hk, List.drop_eq_getElem_cons hq, List.flatMap_cons, List.getElem?_append_left (by rw [hk]; exact hr)]
theorem flatK_is (l : List S68) : (Go.Sort.flatK encD 3 l.toArray).toList = l.flatMap encD := by
  apply List.ext_getElem?
  intro t
  by_cases ht : t < l.length * 3
  · have hq : t / 3 < l.length := by omega
    rw [flat_get encD_len (by decide) l t ht]
    have hr : t % 3 < (encD l[t / 3]).length := by rw [encD_len]; omega
    rw [List.getElem?_eq_getElem hr]
    simp only [Go.Sort.flatK, Array.getElem?_toList, Array.getElem?_map]
    rw [Array.getElem?_range, if_pos (by simpa using ht), Option.map_some, getElem!_pos _ (t / 3) (by simpa using hq), getElem!_pos _ (t % 3) (by simpa using hr)]
    rfl
  · rw [List.getElem?_eq_none (by simpa using Nat.not_lt.mp ht), List.getElem?_eq_none (by rw [flat_len encD_len]; omega)]
theorem holdsE {w : World} {g : Nat} {cur : Array Value} {e : TypeId} {l : List S68} (hb : w.heap[g]? = some (.cells cur e (0, 0))) (ht : cur.toList.take (l.length * 3) = l.flatMap encD) : Go.Sort.HoldsK encD 3 w g 0 l.toArray := by
  intro j hj
  have hj' : j < l.length * 3 := by simpa using hj
  refine ⟨?_, by simp [World.frozen?, hb]⟩
  have h1 : (cur.toList.take (l.length * 3))[j]? = (Go.Sort.flatK encD 3 l.toArray).toList[j]? := by rw [ht, flatK_is]
  rw [List.getElem?_take_of_lt hj', Array.getElem?_toList, Array.getElem?_toList, Array.getElem?_eq_getElem hj] at h1
  rw [getElem!_pos _ j hj]
  simp only [World.cell?, hb, Nat.zero_add]
  simp only [Option.isSome_none, Bool.false_eq_true, if_false]
  rw [h1]
  rfl
theorem heapE {w : World} {g n : Nat} {os : Array Obj} {cur : Array Value} {e : TypeId} {fr : Nat × Nat} (d : Array S68) (hb : w.heap[g]? = some (.cells cur e fr)) :
    (Go.Proofs.sortWorldK encD 3 w g 0 n d os).heap[g]? = some (.cells (Go.Sort.putCells id 0 (Go.Sort.flatK encD 3 d) cur) e fr) := by
  have hg : g < w.heap.size := (Array.getElem?_eq_some_iff.1 hb).1
  unfold Go.Proofs.sortWorldK Go.Sort.putRowK
  rw [Go.Sort.heap_grow_old _ _ (by simpa [Go.Sort.ahead] using hg)]
  simp [Go.Sort.putRow, Go.Sort.mapBlock, Go.Sort.ahead, Array.getElem?_modify, hb, Go.Sort.onCells]
theorem grownE {w : World} {g n : Nat} {os : Array Obj} (d : Array S68) : w.grownBy (Go.Proofs.sortWorldK encD 3 w g 0 n d os) (some g) := by
  unfold Go.Proofs.sortWorldK Go.Sort.putRowK
  refine ⟨rfl, rfl, rfl, by simp [Go.Sort.ahead], fun k hk hne => ?_⟩
  rw [Go.Sort.heap_grow_old _ _ (by simpa [Go.Sort.ahead] using hk)]
  have : g ≠ k := fun e => hne (by rw [e])
  simp [Go.Sort.putRow, Go.Sort.mapBlock, Go.Sort.ahead, Array.getElem?_modify, this]
theorem takeE (cur : Array Value) (l : List S68) (h : l.length * 3 ≤ cur.size) : (Go.Sort.putCells id 0 (Go.Sort.flatK encD 3 l.toArray) cur).toList.take (l.length * 3) = l.flatMap encD := by
  rw [← flatK_is]
  apply List.ext_getElem?
  intro j
  by_cases hj : j < l.length * 3
  · have hj2 : j < (Go.Sort.flatK encD 3 l.toArray).size := by simpa using hj
    rw [List.getElem?_take_of_lt hj, Array.getElem?_toList, Array.getElem?_toList, Array.getElem?_eq_getElem hj2]
    simp only [Go.Sort.putCells, Array.getElem?_mapIdx]
    rw [Array.getElem?_eq_getElem (show j < cur.size by omega), Option.map_some, if_pos ⟨Nat.zero_le _, by omega⟩, Nat.sub_zero, getElem!_pos _ j hj2]
    rfl
  · rw [List.getElem?_take_eq_none (by omega), List.getElem?_eq_none (by simp; omega)]
end Go.Proofs.YtblejbgkcgajgaaGreat.Q
end

section
namespace Go.Proofs.YtblejbgkcgajgaaGreat.Q
open Go.RowKit Go.Proofs.YtblejbgkcgajgaaGreatW.PrintWords Go.Proofs.YtblejbgkcgajgaaGreatW.PrintLast Go.Proofs.YtblejbgkcgajgaaGreatW.PrintMore
attribute [local go_sem] max2_int min2_int max_two min_two max_three min_three max_four min_four   -- for this text's walks alone
set_option linter.unusedVariables false
set_option linter.unusedSimpArgs false
attribute [local go_sem] bin_leq bin_gtr bin_geq
def sort_Edit.f (l0 : List (S68)) : Option (List (S68)) := if l0.length < 4611686018427387904 then some (sortE l0) else none
theorem cmp_calls (x y : S68) (W : World) : Calls Tryz.prog 61 #[.agg #[.string x.f0, .int .i64 x.f1, .bool x.f2], .agg #[.string y.f0, .int .i64 y.f1, .bool y.f2]] W fun e w' => e = .returned (.int .i64 (cmpE x y)) ∧ ∃ q os', w' = Go.Sort.grow (W.drewN q) os' := by
  have A2 := Aside0.mk (show strings_Compare.f x.f0 y.f0 = some (cmpE x y) from rfl)
  generalize cmpE x y = r at A2 ⊢
  go_enter Tryz.func61, Tryz.ntmps61
  go_wp2_with (go_at_call 62; (with_reducible refine (strings_Compare.calls _ _ _ _ A2.out).mono ?_); rintro e w' ⟨rfl, ⟨n, rfl⟩⟩)
  go_ret
  exact ⟨rfl, _, _, by rw [Go.Sort.alloc_eq_grow, Go.Sort.alloc_eq_grow, Go.Sort.grow_grow]; rfl⟩
theorem sort_Edit.calls (P0_ : Nat → Prop) (u9000_ : Value) (l0 : List (S68)) (r : List (S68)) (w0 w : World) (hB : Below w0.heap.size w0 w) (ho0 : Kd.R k68 68 w w0.heap.size P0_ u9000_ l0) (h : sort_Edit.f l0 = some r) :
    Calls Tryz.prog 60 #[u9000_, .func (.func 61) #[] #[]] w fun e w' => e = .returned (.tuple #[]) ∧ Kd.R k68 68 w' w0.heap.size (fun k_ => (P0_ k_ ∨ w.heap.size ≤ k_)) u9000_ r ∧ Below w0.heap.size w0 w' ∧ Kept w w' (fun k_ => P0_ k_) := by
  unfold sort_Edit.f at h
  by_cases hlen : l0.length < 4611686018427387904
  case neg => rw [if_neg hlen] at h; cases h
  rw [if_pos hlen] at h
  obtain rfl := Option.some.inj h
  clear h
  by_cases hp : 0 < l0.length
  · obtain ⟨g, cap, cur, rfl, hbg, hok, hg, hn, hm, hs, ht⟩ := flatR_open (enc := encD) ediM encD_len rfl ho0 hp
    have hblk : g < w.heap.size := blk_lt hg
    refine (Go.Proofs.AnyQ.slices_SortFunc_eq sortEditL 3 Tryz.isAgg68 Tryz.sizeOf68 encD encD_len encD_one cmpE swoE 61 #[] g 0 cap l0.toArray w (enters_ Tryz.func61 (by kernel_rfl) rfl) (fun m os dk _ x y => cmp_calls x y _) (holdsE hg ht) hblk hlen).mono ?_
    rintro e w' ⟨rfl, n, os, rfl⟩
    have hl : (sortE l0).length = l0.length := sortE_len l0
    refine ⟨rfl, ?_, Below.grown hB (grownE _) hB.size (fun k hk => by injection hk with hk; rw [← hk]; exact hbg), ?_⟩
    · refine flatR_mk (enc := encD) ediM encD_len rfl hl.symm hbg (.inl hok) (heapE _ hg) hn hm (by rw [Go.Sort.putCells, Array.size_mapIdx]; exact hs) ?_
      have e1 : Go.Sort.pdq (Go.Proofs.ltOf cmpE) l0.toArray 0 l0.toArray.size (Go.Lib.bitLen l0.toArray.size) true true = (sortE l0).toArray := by simp [sortE]
      rw [e1, ← hl]
      exact takeE cur (sortE l0) (by rw [hl, hs]; exact Nat.mul_le_mul_right 3 hn)
    · obtain ⟨_, _, _, gs, gb⟩ := grownE (w := w) (g := g) (n := n) (os := os) (Go.Sort.pdq (Go.Proofs.ltOf cmpE) l0.toArray 0 l0.toArray.size (Go.Lib.bitLen l0.toArray.size) true true)
      exact ⟨gs, fun k hk hS => gb k hk (fun e_ => hS (by injection e_ with e_; rw [e_]; exact hok))⟩
  · have h0 : l0 = [] := List.eq_nil_of_length_eq_zero (by omega)
    subst h0
    obtain ⟨A, c, rfl⟩ := Kd.R_slice ho0
    refine (Go.Proofs.AnyF.slices_SortFunc_none { sortEditL with } A c _ w).mono ?_
    rintro e w' ⟨rfl, rfl⟩
    have e0 : sortE [] = [] := List.eq_nil_of_length_eq_zero (by rw [sortE_len]; rfl)
    rw [e0]
    exact ⟨rfl, Kd.R_mono ho0 (fun _ hk => .inl hk), hB, Kept.refl _ _⟩
end Go.Proofs.YtblejbgkcgajgaaGreat.Q
end

section
namespace Go.Proofs.YtblejbgkcgajgaaGreat.Q
open Go.RowKit Go.Proofs.YtblejbgkcgajgaaGreatW.PrintWords Go.Proofs.YtblejbgkcgajgaaGreatW.PrintLast Go.Proofs.YtblejbgkcgajgaaGreatW.PrintMore
attribute [local go_sem] max2_int min2_int max_two min_two max_three min_three max_four min_four   -- for this text's walks alone
set_option linter.unusedVariables false
set_option linter.unusedSimpArgs false
attribute [local go_sem] bin_leq bin_gtr bin_geq
mutual
def impl_diff.l0 : Nat → List (S84) → List (S84) → List (S68) → List (S84) → Int → Int → Option ((List (S68)))
 | 0, _, _, _, _, _, _ => none
 | k + 1, x0, x1, x5, x14, x15, x16 => if x16 < x15 then (if 0 ≤ x16 then (if x16 < (x14.length : Int) then ((impl_find.f x0 ((rd_T84 x14 x16).f0)).bind fun bt297 => (if bt297.2 = true then (if 0 ≤ bt297.1 then (if bt297.1 < (x0.length : Int) then (if ((rd_T84 x0 bt297.1).f1) = ((rd_T84 x14 x16).f1) then (impl_diff.l0 k x0 x1 x5 x14 x15 (wrap64 (x16 + 1))) else (if x5.length < 4398046511104 then (impl_diff.l0 k x0 x1 (x5 ++ [(⟨(rd_T84 x14 x16).f0, (rd_T84 x14 x16).f1, false⟩ : S68)]) x14 x15 (wrap64 (x16 + 1))) else (none))) else (none)) else (none)) else (if x5.length < 4398046511104 then (impl_diff.l0 k x0 x1 (x5 ++ [(⟨(rd_T84 x14 x16).f0, (rd_T84 x14 x16).f1, false⟩ : S68)]) x14 x15 (wrap64 (x16 + 1))) else (none)))) else (none)) else (none)) else (impl_diff.l1 k x1 x5 x0 (x0.length : Int) 0)
def impl_diff.l1 : Nat → List (S84) → List (S68) → List (S84) → Int → Int → Option ((List (S68)))
 | 0, _, _, _, _, _ => none
 | k + 1, x1, x5, x48, x49, x50 => if x50 < x49 then (if 0 ≤ x50 then (if x50 < (x48.length : Int) then ((impl_find.f x1 ((rd_T84 x48 x50).f0)).bind fun bt308 => (if bt308.2 = true then (impl_diff.l1 k x1 x5 x48 x49 (wrap64 (x50 + 1))) else (if x5.length < 4398046511104 then (impl_diff.l1 k x1 (x5 ++ [(⟨(rd_T84 x48 x50).f0, 0, true⟩ : S68)]) x48 x49 (wrap64 (x50 + 1))) else (none)))) else (none)) else (none)) else ((sort_Edit.f x5).bind fun t313 => (some t313))
end
def impl_diff.f (k : Nat) (l0 : List (S84)) (l1 : List (S84)) : Option ((List (S68))) := impl_diff.l0 k l0 l1 ([] : List (S68)) l1 (l1.length : Int) 0
set_option maxHeartbeats 8000000 in
set_option maxRecDepth 100000 in
theorem impl_diff.calls (k : Nat) (A0 : Option Addr) (c0 : Nat) (l0 : List (S84)) (A1 : Option Addr) (c1 : Nat) (l1 : List (S84)) (r : List (S68)) (w : World) (hr0 : Kd.C k84 w A0 l0.length l0) (hc0 : l0.length ≤ c0) (hr1 : Kd.C k84 w A1 l1.length l1) (hc1 : l1.length ≤ c1) (h : impl_diff.f k l0 l1 = some r) :
  Calls Tryz.prog 34 #[.slice A0 l0.length c0, .slice A1 l1.length c1] w fun e w' => ∃ v0_ : Value, e = .returned (v0_) ∧ Kd.R k68 68 w' w.heap.size (fun _ => True) v0_ r ∧ Below w.heap.size w w' := by
 have hu84 := Tryz.underlying84
 have hu68 := Tryz.underlying68
 have HR0 := Aside0.mk hr0
 have HC0 := Aside0.mk hc0
 clear hr0 hc0
 have HR1 := Aside0.mk hr1
 have HC1 := Aside0.mk hc1
 clear hr1 hc1
 have HB := Aside0.mk (Below.refl w.heap.size w)
 have H : (impl_diff.l0 k l0 l1 ([] : List (S68)) l1 (l1.length : Int) 0) = some r := h
 clear h
 have H' := Aside0.mk H
 clear H
 go_enter Tryz.func34, Tryz.ntmps34
 go_wp2
 go_loopg [5, 16] k (fun kq v5 v16 w' => ∃ (x5_1 : List (S68)) (x16_1 : Int), v16 = .int .i64 x16_1 ∧ Aside0 (impl_diff.l0 kq l0 l1 x5_1 l1 (l1.length : Int) x16_1 = some r) ∧ Aside0 (kq ≤ k) ∧ Aside0 (Kd.R k68 68 w' w.heap.size (fun _ => True) v5 x5_1) ∧ Aside0 (Below w.heap.size w w'))
 case atStart => exact ⟨(([] : List (S68))), (0), vE, H', ⟨Nat.le_refl _⟩, ⟨by exact Kd.R_nil _ _ _ _ _⟩, ⟨bW⟩⟩
 case round =>
  clear H'
  obtain ⟨x5_1, x16_1, rfl, HA, HK1, HO_5, HB⟩ := hrel
  cases gk with
  | zero => exact absurd HA.out (by simp [impl_diff.l0])
  | succ k1 =>
   have H := HA.out
   clear HA
   simp only [impl_diff.l0] at H
   by_cases c3 : x16_1 < (l1.length : Int)
   ·rw [if_pos c3] at H
    have c3b0 : decide (x16_1 < (l1.length : Int)) = true := decide_eq_true c3
    clear c3
    by_cases c4 : 0 ≤ x16_1
    ·rw [if_pos c4] at H
     have c4b0 : decide (0 ≤ x16_1) = true := decide_eq_true c4
     clear c4
     by_cases c5 : x16_1 < (l1.length : Int)
     ·rw [if_pos c5] at H
      have c5b0 : decide (x16_1 < (l1.length : Int)) = true := decide_eq_true c5
      clear c5
      replace H := Option.bind_eq_some_iff.mp H
      obtain ⟨⟨t297, t298⟩, A60, H⟩ := H
      replace H : (if t298 = true then (if 0 ≤ t297 then (if t297 < (l0.length : Int) then (if ((rd_T84 l0 t297).f1) = ((rd_T84 l1 x16_1).f1) then (impl_diff.l0 k1 l0 l1 x5_1 l1 (l1.length : Int) (wrap64 (x16_1 + 1))) else (if x5_1.length < 4398046511104 then (impl_diff.l0 k1 l0 l1 (x5_1 ++ [(⟨(rd_T84 l1 x16_1).f0, (rd_T84 l1 x16_1).f1, false⟩ : S68)]) l1 (l1.length : Int) (wrap64 (x16_1 + 1))) else (none))) else (none)) else (none)) else (if x5_1.length < 4398046511104 then (impl_diff.l0 k1 l0 l1 (x5_1 ++ [(⟨(rd_T84 l1 x16_1).f0, (rd_T84 l1 x16_1).f1, false⟩ : S68)]) l1 (l1.length : Int) (wrap64 (x16_1 + 1))) else (none))) = some r := H
      have A6 := Aside0.mk A60
      clear A60
      by_cases c7 : t298 = true
      ·subst c7
       have H1 : (if 0 ≤ t297 then (if t297 < (l0.length : Int) then (if ((rd_T84 l0 t297).f1) = ((rd_T84 l1 x16_1).f1) then (impl_diff.l0 k1 l0 l1 x5_1 l1 (l1.length : Int) (wrap64 (x16_1 + 1))) else (if x5_1.length < 4398046511104 then (impl_diff.l0 k1 l0 l1 (x5_1 ++ [(⟨(rd_T84 l1 x16_1).f0, (rd_T84 l1 x16_1).f1, false⟩ : S68)]) l1 (l1.length : Int) (wrap64 (x16_1 + 1))) else (none))) else (none)) else (none)) = some r := by rw [if_pos rfl] at H; exact H
       clear H
       have H := H1
       clear H1
       by_cases c8 : 0 ≤ t297
       ·rw [if_pos c8] at H
        have c8b0 : decide (0 ≤ t297) = true := decide_eq_true c8
        clear c8
        by_cases c9 : t297 < (l0.length : Int)
        ·rw [if_pos c9] at H
         have c9b0 : decide (t297 < (l0.length : Int)) = true := decide_eq_true c9
         clear c9
         by_cases c10 : ((rd_T84 l0 t297).f1) = ((rd_T84 l1 x16_1).f1)
         ·rw [if_pos c10] at H
          have c10b0 : (((rd_T84 l0 t297).f1) == ((rd_T84 l1 x16_1).f1)) = true := beq_iff_eq.mpr c10
          have c10b1 : (((rd_T84 l0 t297).f1) != ((rd_T84 l1 x16_1).f1)) = false := bne_eq_false_iff_eq.mpr c10
          clear c10
          have H' := Aside0.mk H
          clear H
          have p295 : 0 ≤ (x16_1 : Int) := odt
          have q295 : x16_1 < (l1.length : Int) := odt
          obtain ⟨ad295, e295, hx295_0, hx295_1⟩ := at_T84 HR1.out x16_1 p295 q295
          cases e295
          replace hx295_0 := (HB.out.cell (World.block_lt_of_cell? w _ hx295_0)).trans hx295_0
          replace hx295_1 := (HB.out.cell (World.block_lt_of_cell? w _ hx295_1)).trans hx295_1
          replace p295 := eq_true p295
          replace q295 := eq_true q295
          go_wp2_with (first | ((with_reducible refine gate_dst (N := 7) rfl ?_); refine bE (N := 7) (cs := #[.string (⟨#[]⟩ : ByteArray), .int .i64 0]) (t := 84) ?_; intro gb296 hg w11 hbox hb; have n0_ := Aside0.mk (Kd.R_below (pR HO_5) hb); have n1_ := Aside0.mk (below_step (w := w) bW hb); have n2_ := Aside0.mk (hbox); have n3_ := Aside0.mk (gS (w := w) hg); have n4_ := n3_; clear HO_5; clear HB; have HO_5 := n0_; have HB := n1_; have BK296 := n2_; have GW296 := n3_; have GE296 := n4_; clear n0_ n1_ n2_ n3_ n4_; clear hb hbox hg; obtain ⟨hcz12_0, hcz12_1⟩ := cz2 BK296; obtain ⟨hfz12_0, hfz12_1⟩ := fz2 BK296) | (go_at_call 59; (with_reducible refine (impl_find.calls _ _ l0 ((rd_T84 l1 x16_1).f0) t297 true _ ?side1 ?side2 A6.out).mono ?_); (case side1 => exact Kd.C_below HR0.out bW); (case side2 => exact HC0.out); rintro e w13 ⟨rfl, hb⟩; have n0_ := Aside0.mk (Kd.R_below (by exact (Kd.R_mono (Kd.R_far (p := ⟨gb296, 1, none⟩) (Kd.R_far (p := ⟨gb296, 0, none⟩) (Kd.R_types HO_5.out BK296.out (by decide)) (fun _ hk => hk.2) (.string ((rd_T84 l1 x16_1).f0))) (fun _ hk => hk.2) (.int .i64 ((rd_T84 l1 x16_1).f1))) (fun _ h_ => h_.1))) hb); have n1_ := Aside0.mk (blk_below (g := gb296) (o := .cells #[.string ((rd_T84 l1 x16_1).f0), .int .i64 ((rd_T84 l1 x16_1).f1)] 84 (0, 0)) (by refine blk_put (cs := #[.string ((rd_T84 l1 x16_1).f0), .int .i64 0]) ?_ 1 _ rfl; refine blk_put (cs := #[.string (⟨#[]⟩ : ByteArray), .int .i64 0]) ?_ 0 _ rfl; exact BK296.out) hb); have n2_ := Aside0.mk (below_step (w := w) bW hb); clear HO_5; clear BK296; clear HB; have HO_5 := n0_; have BK296 := n1_; have HB := n2_; clear n0_ n1_ n2_; (try clear hb); have p299 : 0 ≤ (t297 : Int) := odt; have q299 : t297 < (l0.length : Int) := odt; obtain ⟨ad299, e299, hx299_0, hx299_1⟩ := at_T84 HR0.out t297 p299 q299; cases e299; replace hx299_0 := (HB.out.cell (World.block_lt_of_cell? w _ hx299_0)).trans hx299_0; replace hx299_1 := (HB.out.cell (World.block_lt_of_cell? w _ hx299_1)).trans hx299_1; replace p299 := eq_true p299; replace q299 := eq_true q299; obtain ⟨hcz14_0, hcz14_1⟩ := cz2 BK296; obtain ⟨hfz14_0, hfz14_1⟩ := fz2 BK296))
          repeat (go_quiet (fail); try go_wp2_with (fail))
          go_roundg k1
          case measure => have := HK1.out; omega
          case rel => exact ⟨(x5_1), (wrap64 (x16_1 + 1)), vE, H', ⟨by have := HK1.out; omega⟩, ⟨by (with_reducible repeat (apply Kd.R_drewN)); exact HO_5.out⟩, ⟨bW⟩⟩
         ·rw [if_neg c10] at H
          have c10b0 : (((rd_T84 l0 t297).f1) == ((rd_T84 l1 x16_1).f1)) = false := beq_eq_false_iff_ne.mpr c10
          have c10b1 : (((rd_T84 l0 t297).f1) != ((rd_T84 l1 x16_1).f1)) = true := bne_iff_ne.mpr c10
          by_cases c15 : x5_1.length < 4398046511104
          ·rw [if_pos c15] at H
           have LMc15 := Aside0.mk c15
           clear c15
           obtain ⟨y300, hy300⟩ : ∃ y_ : List (S68), y_ = (x5_1 ++ [(⟨(rd_T84 l1 x16_1).f0, (rd_T84 l1 x16_1).f1, false⟩ : S68)]) := ⟨_, rfl⟩
           replace H : (impl_diff.l0 k1 l0 l1 y300 l1 (l1.length : Int) (wrap64 (x16_1 + 1))) = some r := by (rw [hy300]; with_reducible exact H)
           have Ny300 := Aside0.mk hy300
           clear hy300
           have H' := Aside0.mk H
           clear H
           have p295 : 0 ≤ (x16_1 : Int) := odt
           have q295 : x16_1 < (l1.length : Int) := odt
           obtain ⟨ad295, e295, hx295_0, hx295_1⟩ := at_T84 HR1.out x16_1 p295 q295
           cases e295
           replace hx295_0 := (HB.out.cell (World.block_lt_of_cell? w _ hx295_0)).trans hx295_0
           replace hx295_1 := (HB.out.cell (World.block_lt_of_cell? w _ hx295_1)).trans hx295_1
           replace p295 := eq_true p295
           replace q295 := eq_true q295
           go_wp2_with (first | ((with_reducible refine gate_dst (N := 7) rfl ?_); refine bE (N := 7) (cs := #[.string (⟨#[]⟩ : ByteArray), .int .i64 0]) (t := 84) ?_; intro gb296 hg w16 hbox hb; have n0_ := Aside0.mk (Kd.R_below (pR HO_5) hb); have n1_ := Aside0.mk (below_step (w := w) bW hb); have n2_ := Aside0.mk (hbox); have n3_ := Aside0.mk (gS (w := w) hg); have n4_ := n3_; clear HO_5; clear HB; have HO_5 := n0_; have HB := n1_; have BK296 := n2_; have GW296 := n3_; have GE296 := n4_; clear n0_ n1_ n2_ n3_ n4_; clear hb hbox hg; obtain ⟨hcz17_0, hcz17_1⟩ := cz2 BK296; obtain ⟨hfz17_0, hfz17_1⟩ := fz2 BK296) | (go_at_call 59; (with_reducible refine (impl_find.calls _ _ l0 ((rd_T84 l1 x16_1).f0) t297 true _ ?side1 ?side2 A6.out).mono ?_); (case side1 => exact Kd.C_below HR0.out bW); (case side2 => exact HC0.out); rintro e w18 ⟨rfl, hb⟩; have n0_ := Aside0.mk (Kd.R_below (by exact (Kd.R_mono (Kd.R_far (p := ⟨gb296, 1, none⟩) (Kd.R_far (p := ⟨gb296, 0, none⟩) (Kd.R_types HO_5.out BK296.out (by decide)) (fun _ hk => hk.2) (.string ((rd_T84 l1 x16_1).f0))) (fun _ hk => hk.2) (.int .i64 ((rd_T84 l1 x16_1).f1))) (fun _ h_ => h_.1))) hb); have n1_ := Aside0.mk (blk_below (g := gb296) (o := .cells #[.string ((rd_T84 l1 x16_1).f0), .int .i64 ((rd_T84 l1 x16_1).f1)] 84 (0, 0)) (by refine blk_put (cs := #[.string ((rd_T84 l1 x16_1).f0), .int .i64 0]) ?_ 1 _ rfl; refine blk_put (cs := #[.string (⟨#[]⟩ : ByteArray), .int .i64 0]) ?_ 0 _ rfl; exact BK296.out) hb); have n2_ := Aside0.mk (below_step (w := w) bW hb); clear HO_5; clear BK296; clear HB; have HO_5 := n0_; have BK296 := n1_; have HB := n2_; clear n0_ n1_ n2_; (try clear hb); have p299 : 0 ≤ (t297 : Int) := odt; have q299 : t297 < (l0.length : Int) := odt; obtain ⟨ad299, e299, hx299_0, hx299_1⟩ := at_T84 HR0.out t297 p299 q299; cases e299; replace hx299_0 := (HB.out.cell (World.block_lt_of_cell? w _ hx299_0)).trans hx299_0; replace hx299_1 := (HB.out.cell (World.block_lt_of_cell? w _ hx299_1)).trans hx299_1; replace p299 := eq_true p299; replace q299 := eq_true q299; obtain ⟨hcz19_0, hcz19_1⟩ := cz2 BK296; obtain ⟨hfz19_0, hfz19_1⟩ := fz2 BK296))
           repeat (go_quiet (fail); try go_wp2_with (((with_reducible refine gate_builtin (b := .append) (xs := #[.tmp 39, .tmp 45]) rfl ?_); at_builtin; refine Kd.R_append k68 (w0 := w) w.heap.size rfl (.tmp 39) (.tmp 45) 30 68 (.agg #[(.string ⟨#[]⟩), (.int .i64 0), (.bool false)]) 32 rfl Tryz.underlying30 info68 rfl (by decide) (by omega) u5 x5_1 (⟨(rd_T84 l1 x16_1).f0, (rd_T84 l1 x16_1).f1, false⟩ : S68) [.string ((rd_T84 l1 x16_1).f0), .int .i64 ((rd_T84 l1 x16_1).f1), .bool false] (fun _ => True) (fun _ => False) rfl rfl ?aP (fun _ hk => hk.elim) ?aF ?aO ?aB ?aS ?aL ?_; (case aP => exact k68_mkM _ _ _ (⟨(rd_T84 l1 x16_1).f0, (rd_T84 l1 x16_1).f1, false⟩ : S68)); (case aB => exact bW); (case aF => exact (fun _ _ => trivial)); (case aO => exact (pR HO_5)); (case aS => exact (below_size (w := w) bW)); (case aL => have := LMc15.out; omega); intro v301 w20 ho hb hg hat; rw [← Ny300.out] at ho; have n0_ := Aside0.mk (blk_grown (g := gb296) (o := .cells #[.string ((rd_T84 l1 x16_1).f0), .int .i64 ((rd_T84 l1 x16_1).f1)] 84 (0, 0)) (kB BK296) hg (Kd.R_ne HO_5.out BK296.out (by decide))); have n1_ := Aside0.mk (hb); have n2_ := Aside0.mk (ho); clear BK296; clear HB; clear HO_5; have BK296 := n0_; have HB := n1_; have HO302 := n2_; clear n0_ n1_ n2_; clear ho hb hg hat)))
           go_roundg k1
           case measure => have := HK1.out; omega
           case rel => exact ⟨(y300), (wrap64 (x16_1 + 1)), vE, H', ⟨by have := HK1.out; omega⟩, ⟨by exact HO302.out⟩, ⟨bW⟩⟩
          ·rw [if_neg c15] at H
           exact absurd H (by simp)
        ·rw [if_neg c9] at H
         exact absurd H (by simp)
       ·rw [if_neg c8] at H
        exact absurd H (by simp)
      ·replace c7 := Bool.eq_false_iff.mpr c7
       subst c7
       have H1 : (if x5_1.length < 4398046511104 then (impl_diff.l0 k1 l0 l1 (x5_1 ++ [(⟨(rd_T84 l1 x16_1).f0, (rd_T84 l1 x16_1).f1, false⟩ : S68)]) l1 (l1.length : Int) (wrap64 (x16_1 + 1))) else (none)) = some r := by rw [if_neg (show ¬ (false = true) by decide)] at H; exact H
       clear H
       have H := H1
       clear H1
       by_cases c21 : x5_1.length < 4398046511104
       ·rw [if_pos c21] at H
        have LMc21 := Aside0.mk c21
        clear c21
        obtain ⟨y303, hy303⟩ : ∃ y_ : List (S68), y_ = (x5_1 ++ [(⟨(rd_T84 l1 x16_1).f0, (rd_T84 l1 x16_1).f1, false⟩ : S68)]) := ⟨_, rfl⟩
        replace H : (impl_diff.l0 k1 l0 l1 y303 l1 (l1.length : Int) (wrap64 (x16_1 + 1))) = some r := by (rw [hy303]; with_reducible exact H)
        have Ny303 := Aside0.mk hy303
        clear hy303
        have H' := Aside0.mk H
        clear H
        have p295 : 0 ≤ (x16_1 : Int) := odt
        have q295 : x16_1 < (l1.length : Int) := odt
        obtain ⟨ad295, e295, hx295_0, hx295_1⟩ := at_T84 HR1.out x16_1 p295 q295
        cases e295
        replace hx295_0 := (HB.out.cell (World.block_lt_of_cell? w _ hx295_0)).trans hx295_0
        replace hx295_1 := (HB.out.cell (World.block_lt_of_cell? w _ hx295_1)).trans hx295_1
        replace p295 := eq_true p295
        replace q295 := eq_true q295
        go_wp2_with (first | ((with_reducible refine gate_dst (N := 7) rfl ?_); refine bE (N := 7) (cs := #[.string (⟨#[]⟩ : ByteArray), .int .i64 0]) (t := 84) ?_; intro gb296 hg w22 hbox hb; have n0_ := Aside0.mk (Kd.R_below (pR HO_5) hb); have n1_ := Aside0.mk (below_step (w := w) bW hb); have n2_ := Aside0.mk (hbox); have n3_ := Aside0.mk (gS (w := w) hg); have n4_ := n3_; clear HO_5; clear HB; have HO_5 := n0_; have HB := n1_; have BK296 := n2_; have GW296 := n3_; have GE296 := n4_; clear n0_ n1_ n2_ n3_ n4_; clear hb hbox hg; obtain ⟨hcz23_0, hcz23_1⟩ := cz2 BK296; obtain ⟨hfz23_0, hfz23_1⟩ := fz2 BK296) | (go_at_call 59; (with_reducible refine (impl_find.calls _ _ l0 ((rd_T84 l1 x16_1).f0) t297 false _ ?side1 ?side2 A6.out).mono ?_); (case side1 => exact Kd.C_below HR0.out bW); (case side2 => exact HC0.out); rintro e w24 ⟨rfl, hb⟩; have n0_ := Aside0.mk (Kd.R_below (by exact (Kd.R_mono (Kd.R_far (p := ⟨gb296, 1, none⟩) (Kd.R_far (p := ⟨gb296, 0, none⟩) (Kd.R_types HO_5.out BK296.out (by decide)) (fun _ hk => hk.2) (.string ((rd_T84 l1 x16_1).f0))) (fun _ hk => hk.2) (.int .i64 ((rd_T84 l1 x16_1).f1))) (fun _ h_ => h_.1))) hb); have n1_ := Aside0.mk (blk_below (g := gb296) (o := .cells #[.string ((rd_T84 l1 x16_1).f0), .int .i64 ((rd_T84 l1 x16_1).f1)] 84 (0, 0)) (by refine blk_put (cs := #[.string ((rd_T84 l1 x16_1).f0), .int .i64 0]) ?_ 1 _ rfl; refine blk_put (cs := #[.string (⟨#[]⟩ : ByteArray), .int .i64 0]) ?_ 0 _ rfl; exact BK296.out) hb); have n2_ := Aside0.mk (below_step (w := w) bW hb); clear HO_5; clear BK296; clear HB; have HO_5 := n0_; have BK296 := n1_; have HB := n2_; clear n0_ n1_ n2_; (try clear hb); obtain ⟨hcz25_0, hcz25_1⟩ := cz2 BK296; obtain ⟨hfz25_0, hfz25_1⟩ := fz2 BK296))
        repeat (go_quiet (fail); try go_wp2_with (((with_reducible refine gate_builtin (b := .append) (xs := #[.tmp 39, .tmp 45]) rfl ?_); at_builtin; refine Kd.R_append k68 (w0 := w) w.heap.size rfl (.tmp 39) (.tmp 45) 30 68 (.agg #[(.string ⟨#[]⟩), (.int .i64 0), (.bool false)]) 32 rfl Tryz.underlying30 info68 rfl (by decide) (by omega) u5 x5_1 (⟨(rd_T84 l1 x16_1).f0, (rd_T84 l1 x16_1).f1, false⟩ : S68) [.string ((rd_T84 l1 x16_1).f0), .int .i64 ((rd_T84 l1 x16_1).f1), .bool false] (fun _ => True) (fun _ => False) rfl rfl ?aP (fun _ hk => hk.elim) ?aF ?aO ?aB ?aS ?aL ?_; (case aP => exact k68_mkM _ _ _ (⟨(rd_T84 l1 x16_1).f0, (rd_T84 l1 x16_1).f1, false⟩ : S68)); (case aB => exact bW); (case aF => exact (fun _ _ => trivial)); (case aO => exact (pR HO_5)); (case aS => exact (below_size (w := w) bW)); (case aL => have := LMc21.out; omega); intro v304 w26 ho hb hg hat; rw [← Ny303.out] at ho; have n0_ := Aside0.mk (blk_grown (g := gb296) (o := .cells #[.string ((rd_T84 l1 x16_1).f0), .int .i64 ((rd_T84 l1 x16_1).f1)] 84 (0, 0)) (kB BK296) hg (Kd.R_ne HO_5.out BK296.out (by decide))); have n1_ := Aside0.mk (hb); have n2_ := Aside0.mk (ho); clear BK296; clear HB; clear HO_5; have BK296 := n0_; have HB := n1_; have HO305 := n2_; clear n0_ n1_ n2_; clear ho hb hg hat)))
        go_roundg k1
        case measure => have := HK1.out; omega
        case rel => exact ⟨(y303), (wrap64 (x16_1 + 1)), vE, H', ⟨by have := HK1.out; omega⟩, ⟨by exact HO305.out⟩, ⟨bW⟩⟩
       ·rw [if_neg c21] at H
        exact absurd H (by simp)
     ·rw [if_neg c5] at H
      exact absurd H (by simp)
    ·rw [if_neg c4] at H
     exact absurd H (by simp)
   ·rw [if_neg c3] at H
    have c3b0 : decide (x16_1 < (l1.length : Int)) = false := decide_eq_false c3
    clear c3
    have H' := Aside0.mk H
    clear H
    go_wp2
    go_loopg [5, 50] k1 (fun kq v5 v50 w' => ∃ (x5_2 : List (S68)) (x50_2 : Int), v50 = .int .i64 x50_2 ∧ Aside0 (impl_diff.l1 kq l1 x5_2 l0 (l0.length : Int) x50_2 = some r) ∧ Aside0 (kq ≤ k1) ∧ Aside0 (Kd.R k68 68 w' w.heap.size (fun _ => True) v5 x5_2) ∧ Aside0 (Below w.heap.size w w'))
    case atStart => exact ⟨(x5_1), (0), vE, H', ⟨Nat.le_refl _⟩, ⟨by exact HO_5.out⟩, ⟨bW⟩⟩
    case round =>
     clear H'
     try clear c3b0
     obtain ⟨x5_2, x50_2, rfl, HA, HK2, HO_5, HB⟩ := hrel
     cases gk with
     | zero => exact absurd HA.out (by simp [impl_diff.l1])
     | succ k2 =>
      have H := HA.out
      clear HA
      simp only [impl_diff.l1] at H
      by_cases c27 : x50_2 < (l0.length : Int)
      ·rw [if_pos c27] at H
       have c27b0 : decide (x50_2 < (l0.length : Int)) = true := decide_eq_true c27
       clear c27
       by_cases c28 : 0 ≤ x50_2
       ·rw [if_pos c28] at H
        have c28b0 : decide (0 ≤ x50_2) = true := decide_eq_true c28
        clear c28
        by_cases c29 : x50_2 < (l0.length : Int)
        ·rw [if_pos c29] at H
         have c29b0 : decide (x50_2 < (l0.length : Int)) = true := decide_eq_true c29
         clear c29
         replace H := Option.bind_eq_some_iff.mp H
         obtain ⟨⟨t308, t309⟩, A300, H⟩ := H
         replace H : (if t309 = true then (impl_diff.l1 k2 l1 x5_2 l0 (l0.length : Int) (wrap64 (x50_2 + 1))) else (if x5_2.length < 4398046511104 then (impl_diff.l1 k2 l1 (x5_2 ++ [(⟨(rd_T84 l0 x50_2).f0, 0, true⟩ : S68)]) l0 (l0.length : Int) (wrap64 (x50_2 + 1))) else (none))) = some r := H
         have A30 := Aside0.mk A300
         clear A300
         by_cases c31 : t309 = true
         ·subst c31
          have H1 : (impl_diff.l1 k2 l1 x5_2 l0 (l0.length : Int) (wrap64 (x50_2 + 1))) = some r := by rw [if_pos rfl] at H; exact H
          clear H
          have H := H1
          clear H1
          have H' := Aside0.mk H
          clear H
          have p306 : 0 ≤ (x50_2 : Int) := odt
          have q306 : x50_2 < (l0.length : Int) := odt
          obtain ⟨ad306, e306, hx306_0, hx306_1⟩ := at_T84 HR0.out x50_2 p306 q306
          cases e306
          replace hx306_0 := (HB.out.cell (World.block_lt_of_cell? w _ hx306_0)).trans hx306_0
          replace hx306_1 := (HB.out.cell (World.block_lt_of_cell? w _ hx306_1)).trans hx306_1
          replace p306 := eq_true p306
          replace q306 := eq_true q306
          go_wp2_with (first | ((with_reducible refine gate_dst (N := 11) rfl ?_); refine bE (N := 11) (cs := #[.string (⟨#[]⟩ : ByteArray), .int .i64 0]) (t := 84) ?_; intro gb307 hg w32 hbox hb; have n0_ := Aside0.mk (Kd.R_below (pR HO_5) hb); have n1_ := Aside0.mk (below_step (w := w) bW hb); have n2_ := Aside0.mk (hbox); have n3_ := Aside0.mk (gS (w := w) hg); have n4_ := n3_; clear HO_5; clear HB; have HO_5 := n0_; have HB := n1_; have BK307 := n2_; have GW307 := n3_; have GE307 := n4_; clear n0_ n1_ n2_ n3_ n4_; clear hb hbox hg; obtain ⟨hcz33_0, hcz33_1⟩ := cz2 BK307; obtain ⟨hfz33_0, hfz33_1⟩ := fz2 BK307) | (go_at_call 59; (with_reducible refine (impl_find.calls _ _ l1 ((rd_T84 l0 x50_2).f0) t308 true _ ?side1 ?side2 A30.out).mono ?_); (case side1 => exact Kd.C_below HR1.out bW); (case side2 => exact HC1.out); rintro e w34 ⟨rfl, hb⟩; have n0_ := Aside0.mk (Kd.R_below (by exact (Kd.R_mono (Kd.R_far (p := ⟨gb307, 1, none⟩) (Kd.R_far (p := ⟨gb307, 0, none⟩) (Kd.R_types HO_5.out BK307.out (by decide)) (fun _ hk => hk.2) (.string ((rd_T84 l0 x50_2).f0))) (fun _ hk => hk.2) (.int .i64 ((rd_T84 l0 x50_2).f1))) (fun _ h_ => h_.1))) hb); have n1_ := Aside0.mk (blk_below (g := gb307) (o := .cells #[.string ((rd_T84 l0 x50_2).f0), .int .i64 ((rd_T84 l0 x50_2).f1)] 84 (0, 0)) (by refine blk_put (cs := #[.string ((rd_T84 l0 x50_2).f0), .int .i64 0]) ?_ 1 _ rfl; refine blk_put (cs := #[.string (⟨#[]⟩ : ByteArray), .int .i64 0]) ?_ 0 _ rfl; exact BK307.out) hb); have n2_ := Aside0.mk (below_step (w := w) bW hb); clear HO_5; clear BK307; clear HB; have HO_5 := n0_; have BK307 := n1_; have HB := n2_; clear n0_ n1_ n2_; (try clear hb)))
          go_roundg k2
          case measure => have := HK1.out; have := HK2.out; omega
          case rel => exact ⟨(x5_2), (wrap64 (x50_2 + 1)), vE, H', ⟨by have := HK1.out; have := HK2.out; omega⟩, ⟨by exact HO_5.out⟩, ⟨bW⟩⟩
         ·replace c31 := Bool.eq_false_iff.mpr c31
          subst c31
          have H1 : (if x5_2.length < 4398046511104 then (impl_diff.l1 k2 l1 (x5_2 ++ [(⟨(rd_T84 l0 x50_2).f0, 0, true⟩ : S68)]) l0 (l0.length : Int) (wrap64 (x50_2 + 1))) else (none)) = some r := by rw [if_neg (show ¬ (false = true) by decide)] at H; exact H
          clear H
          have H := H1
          clear H1
          by_cases c35 : x5_2.length < 4398046511104
          ·rw [if_pos c35] at H
           have LMc35 := Aside0.mk c35
           clear c35
           obtain ⟨y310, hy310⟩ : ∃ y_ : List (S68), y_ = (x5_2 ++ [(⟨(rd_T84 l0 x50_2).f0, 0, true⟩ : S68)]) := ⟨_, rfl⟩
           replace H : (impl_diff.l1 k2 l1 y310 l0 (l0.length : Int) (wrap64 (x50_2 + 1))) = some r := by (rw [hy310]; with_reducible exact H)
           have Ny310 := Aside0.mk hy310
           clear hy310
           have H' := Aside0.mk H
           clear H
           have p306 : 0 ≤ (x50_2 : Int) := odt
           have q306 : x50_2 < (l0.length : Int) := odt
           obtain ⟨ad306, e306, hx306_0, hx306_1⟩ := at_T84 HR0.out x50_2 p306 q306
           cases e306
           replace hx306_0 := (HB.out.cell (World.block_lt_of_cell? w _ hx306_0)).trans hx306_0
           replace hx306_1 := (HB.out.cell (World.block_lt_of_cell? w _ hx306_1)).trans hx306_1
           replace p306 := eq_true p306
           replace q306 := eq_true q306
           go_wp2_with (first | ((with_reducible refine gate_dst (N := 11) rfl ?_); refine bE (N := 11) (cs := #[.string (⟨#[]⟩ : ByteArray), .int .i64 0]) (t := 84) ?_; intro gb307 hg w36 hbox hb; have n0_ := Aside0.mk (Kd.R_below (pR HO_5) hb); have n1_ := Aside0.mk (below_step (w := w) bW hb); have n2_ := Aside0.mk (hbox); have n3_ := Aside0.mk (gS (w := w) hg); have n4_ := n3_; clear HO_5; clear HB; have HO_5 := n0_; have HB := n1_; have BK307 := n2_; have GW307 := n3_; have GE307 := n4_; clear n0_ n1_ n2_ n3_ n4_; clear hb hbox hg; obtain ⟨hcz37_0, hcz37_1⟩ := cz2 BK307; obtain ⟨hfz37_0, hfz37_1⟩ := fz2 BK307) | (go_at_call 59; (with_reducible refine (impl_find.calls _ _ l1 ((rd_T84 l0 x50_2).f0) t308 false _ ?side1 ?side2 A30.out).mono ?_); (case side1 => exact Kd.C_below HR1.out bW); (case side2 => exact HC1.out); rintro e w38 ⟨rfl, hb⟩; have n0_ := Aside0.mk (Kd.R_below (by exact (Kd.R_mono (Kd.R_far (p := ⟨gb307, 1, none⟩) (Kd.R_far (p := ⟨gb307, 0, none⟩) (Kd.R_types HO_5.out BK307.out (by decide)) (fun _ hk => hk.2) (.string ((rd_T84 l0 x50_2).f0))) (fun _ hk => hk.2) (.int .i64 ((rd_T84 l0 x50_2).f1))) (fun _ h_ => h_.1))) hb); have n1_ := Aside0.mk (blk_below (g := gb307) (o := .cells #[.string ((rd_T84 l0 x50_2).f0), .int .i64 ((rd_T84 l0 x50_2).f1)] 84 (0, 0)) (by refine blk_put (cs := #[.string ((rd_T84 l0 x50_2).f0), .int .i64 0]) ?_ 1 _ rfl; refine blk_put (cs := #[.string (⟨#[]⟩ : ByteArray), .int .i64 0]) ?_ 0 _ rfl; exact BK307.out) hb); have n2_ := Aside0.mk (below_step (w := w) bW hb); clear HO_5; clear BK307; clear HB; have HO_5 := n0_; have BK307 := n1_; have HB := n2_; clear n0_ n1_ n2_; (try clear hb); obtain ⟨hcz39_0, hcz39_1⟩ := cz2 BK307; obtain ⟨hfz39_0, hfz39_1⟩ := fz2 BK307) | ((with_reducible refine gate_builtin (b := .append) (xs := #[.tmp 63, .tmp 67]) rfl ?_); at_builtin; refine Kd.R_append k68 (w0 := w) w.heap.size rfl (.tmp 63) (.tmp 67) 30 68 (.agg #[(.string ⟨#[]⟩), (.int .i64 0), (.bool false)]) 32 rfl Tryz.underlying30 info68 rfl (by decide) (by omega) u5 x5_2 (⟨(rd_T84 l0 x50_2).f0, 0, true⟩ : S68) [.string ((rd_T84 l0 x50_2).f0), .int .i64 0, .bool true] (fun _ => True) (fun _ => False) rfl rfl ?aP (fun _ hk => hk.elim) ?aF ?aO ?aB ?aS ?aL ?_; (case aP => exact k68_mkM _ _ _ (⟨(rd_T84 l0 x50_2).f0, 0, true⟩ : S68)); (case aB => exact bW); (case aF => exact (fun _ _ => trivial)); (case aO => exact (pR HO_5)); (case aS => exact (below_size (w := w) bW)); (case aL => have := LMc35.out; omega); intro v311 w40 ho hb hg hat; rw [← Ny310.out] at ho; have n0_ := Aside0.mk (blk_grown (g := gb307) (o := .cells #[.string ((rd_T84 l0 x50_2).f0), .int .i64 ((rd_T84 l0 x50_2).f1)] 84 (0, 0)) (kB BK307) hg (Kd.R_ne HO_5.out BK307.out (by decide))); have n1_ := Aside0.mk (hb); have n2_ := Aside0.mk (ho); clear BK307; clear HB; clear HO_5; have BK307 := n0_; have HB := n1_; have HO312 := n2_; clear n0_ n1_ n2_; clear ho hb hg hat))
           go_roundg k2
           case measure => have := HK1.out; have := HK2.out; omega
           case rel => exact ⟨(y310), (wrap64 (x50_2 + 1)), vE, H', ⟨by have := HK1.out; have := HK2.out; omega⟩, ⟨by exact HO312.out⟩, ⟨bW⟩⟩
          ·rw [if_neg c35] at H
           exact absurd H (by simp)
        ·rw [if_neg c29] at H
         exact absurd H (by simp)
       ·rw [if_neg c28] at H
        exact absurd H (by simp)
      ·rw [if_neg c27] at H
       have c27b0 : decide (x50_2 < (l0.length : Int)) = false := decide_eq_false c27
       clear c27
       replace H := Option.bind_eq_some_iff.mp H
       obtain ⟨t313, A410, H⟩ := H
       replace H : (some t313) = some r := H
       have A41 := Aside0.mk A410
       clear A410
       obtain rfl := Option.some.inj H
       obtain ⟨Ao42, co42, eo42⟩ := Kd.R_slice HO_5.out
       subst eo42
       go_wp2_with ((go_at_call 60; (with_reducible refine (sort_Edit.calls (fun k_ => some k_ = (.slice Ao42 x5_2.length co42 : Value).ownBlock) (.slice Ao42 x5_2.length co42) x5_2 t313 w _ ?side1 ?side2 A41.out).mono ?_); (case side1 => repeat ((with_reducible exact HB.out))); (case side2 => exact Kd.R_tight rfl HO_5.out); rintro e w43 ⟨rfl, hy0, hb, hkp⟩; have n0_ := Aside0.mk (Kd.R_reok rfl hy0 (fun k_ e_ => HO_5.out.1 k_ e_)); have n1_ := Aside0.mk (hb); clear HO_5; clear HB; have HO_5 := n0_; have HB := n1_; clear n0_ n1_; (try clear hb); (try clear hkp); (try clear hy0)))
       go_ret
       exact ⟨_, by rfl, by exact HO_5.out, bW⟩
end Go.Proofs.YtblejbgkcgajgaaGreat.Q
end

section
namespace Go.Proofs.YtblejbgkcgajgaaGreat.Q
open Go.RowKit Go.Proofs.YtblejbgkcgajgaaGreatW.PrintWords Go.Proofs.YtblejbgkcgajgaaGreatW.PrintLast Go.Proofs.YtblejbgkcgajgaaGreatW.PrintMore
attribute [local go_sem] max2_int min2_int max_two min_two max_three min_three max_four min_four   -- for this text's walks alone
set_option linter.unusedVariables false
set_option linter.unusedSimpArgs false
attribute [local go_sem] bin_leq bin_gtr bin_geq
def impl_DiffSnaps.f (k : Nat) (l0_0 : List (S64)) (l0_1 : List (S92)) (a1_0 : ByteArray) (a1_1 : Int) (a2_0 : ByteArray) (a2_1 : Int) : Option ((List (S68)) × Int) := (impl_SnapOK.f k l0_0 l0_1 a1_0 a1_1).bind fun t317 => (if t317 = true then ((impl_SnapOK.f k l0_0 l0_1 a2_0 a2_1).bind fun t318 => (if t318 = true then (if 0 ≤ (wrap64 (a1_1 - 1)) then (if (wrap64 (a1_1 - 1)) < (l0_0.length : Int) then (if 0 ≤ (wrap64 (a2_1 - 1)) then (if (wrap64 (a2_1 - 1)) < (l0_0.length : Int) then ((impl_diff.f k ((rd_T64 l0_0 (wrap64 (a1_1 - 1))).f1) ((rd_T64 l0_0 (wrap64 (a2_1 - 1))).f1)).bind fun t321 => (some (t321, 0))) else (none)) else (none)) else (none)) else (none)) else (some (([] : List (S68)), 1)))) else (some (([] : List (S68)), 1)))
def impl_DiffSnaps.T3 : Bool × List (List Nat × List Nat) := (true, [([], []), ([0], [0]), ([], []), ([2], [2]), ([3], [3]), ([1, 4], [1, 4]), ([5], [5]), ([6], [6]), ([], []), ([8], [8]), ([], []), ([10], [10]), ([11], [11]), ([9, 12], [9, 12]), ([13], [13]), ([14], [14]), ([7, 15], [7, 15]), ([16, 16, 0, 1, 2, 3, 4, 5, 6, 7, 8, 9, 10, 11, 12, 13, 14, 15, 16], [16]), ([17, 0, 1, 2, 3, 4, 5, 6, 7, 8, 9, 10, 11, 12, 13, 14, 15, 16, 17], [])])
def impl_DiffSnaps.B3 : List Nat := [0, 1, 0, 4, 12, 31, 63, 127, 0, 256, 0, 1024, 3072, 7936, 16128, 32512, 65535, 131071, 262143]
theorem impl_DiffSnaps.tab3 : rtab .any (opsOf Tryz.f10 3) = impl_DiffSnaps.T3 := by kernel_rfl
theorem impl_DiffSnaps.bits3 : waitsOk impl_DiffSnaps.T3.2 impl_DiffSnaps.B3 = true := by kernel_rfl
set_option maxHeartbeats 8000000 in
set_option maxRecDepth 100000 in
theorem impl_DiffSnaps.calls (k : Nat) (A0_0 : Option Addr) (c0_0 : Nat) (l0_0 : List (S64)) (A0_1 : Option Addr) (c0_1 : Nat) (l0_1 : List (S92)) (a1_0 : ByteArray) (a1_1 : Int) (a2_0 : ByteArray) (a2_1 : Int) (r1 : List (S68)) (r2 : Int) (w : World) (hr0_0 : Kd.C k64 w A0_0 l0_0.length l0_0) (hc0_0 : l0_0.length ≤ c0_0) (hr0_1 : Kd.C k92 w A0_1 l0_1.length l0_1) (hc0_1 : l0_1.length ≤ c0_1) (h : impl_DiffSnaps.f k l0_0 l0_1 a1_0 a1_1 a2_0 a2_1 = some (r1, r2)) :
  Calls Tryz.prog 10 #[.agg #[.slice A0_0 l0_0.length c0_0, .slice A0_1 l0_1.length c0_1], .agg #[.string a1_0, .int .i64 a1_1], .agg #[.string a2_0, .int .i64 a2_1]] w fun e w' => ∃ v0_ : Value, e = .returned (.tuple #[v0_, .int .i64 r2]) ∧ Kd.R k68 68 w' w.heap.size (fun _ => True) v0_ r1 ∧ Below w.heap.size w w' := by
 have hu36 := Tryz.underlying36
 have hu38 := Tryz.underlying38
 have HR0_0 := Aside0.mk hr0_0
 have HC0_0 := Aside0.mk hc0_0
 clear hr0_0 hc0_0
 have HR0_1 := Aside0.mk hr0_1
 have HC0_1 := Aside0.mk hc0_1
 clear hr0_1 hc0_1
 have HB := Aside0.mk (Below.refl w.heap.size w)
 have H : ((impl_SnapOK.f k l0_0 l0_1 a1_0 a1_1).bind fun t317 => (if t317 = true then ((impl_SnapOK.f k l0_0 l0_1 a2_0 a2_1).bind fun t318 => (if t318 = true then (if 0 ≤ (wrap64 (a1_1 - 1)) then (if (wrap64 (a1_1 - 1)) < (l0_0.length : Int) then (if 0 ≤ (wrap64 (a2_1 - 1)) then (if (wrap64 (a2_1 - 1)) < (l0_0.length : Int) then ((impl_diff.f k ((rd_T64 l0_0 (wrap64 (a1_1 - 1))).f1) ((rd_T64 l0_0 (wrap64 (a2_1 - 1))).f1)).bind fun t321 => (some (t321, 0))) else (none)) else (none)) else (none)) else (none)) else (some (([] : List (S68)), 1)))) else (some (([] : List (S68)), 1)))) = some (r1, r2) := h
 clear h
 replace H := Option.bind_eq_some_iff.mp H
 obtain ⟨t317, A40, H⟩ := H
 replace H : (if t317 = true then ((impl_SnapOK.f k l0_0 l0_1 a2_0 a2_1).bind fun t318 => (if t318 = true then (if 0 ≤ (wrap64 (a1_1 - 1)) then (if (wrap64 (a1_1 - 1)) < (l0_0.length : Int) then (if 0 ≤ (wrap64 (a2_1 - 1)) then (if (wrap64 (a2_1 - 1)) < (l0_0.length : Int) then ((impl_diff.f k ((rd_T64 l0_0 (wrap64 (a1_1 - 1))).f1) ((rd_T64 l0_0 (wrap64 (a2_1 - 1))).f1)).bind fun t321 => (some (t321, 0))) else (none)) else (none)) else (none)) else (none)) else (some (([] : List (S68)), 1)))) else (some (([] : List (S68)), 1))) = some (r1, r2) := H
 have A4 := Aside0.mk A40
 clear A40
 by_cases c5 : t317 = true
 ·subst c5
  have H1 : ((impl_SnapOK.f k l0_0 l0_1 a2_0 a2_1).bind fun t318 => (if t318 = true then (if 0 ≤ (wrap64 (a1_1 - 1)) then (if (wrap64 (a1_1 - 1)) < (l0_0.length : Int) then (if 0 ≤ (wrap64 (a2_1 - 1)) then (if (wrap64 (a2_1 - 1)) < (l0_0.length : Int) then ((impl_diff.f k ((rd_T64 l0_0 (wrap64 (a1_1 - 1))).f1) ((rd_T64 l0_0 (wrap64 (a2_1 - 1))).f1)).bind fun t321 => (some (t321, 0))) else (none)) else (none)) else (none)) else (none)) else (some (([] : List (S68)), 1)))) = some (r1, r2) := by rw [if_pos rfl] at H; exact H
  clear H
  have H := H1
  clear H1
  replace H := Option.bind_eq_some_iff.mp H
  obtain ⟨t318, A60, H⟩ := H
  replace H : (if t318 = true then (if 0 ≤ (wrap64 (a1_1 - 1)) then (if (wrap64 (a1_1 - 1)) < (l0_0.length : Int) then (if 0 ≤ (wrap64 (a2_1 - 1)) then (if (wrap64 (a2_1 - 1)) < (l0_0.length : Int) then ((impl_diff.f k ((rd_T64 l0_0 (wrap64 (a1_1 - 1))).f1) ((rd_T64 l0_0 (wrap64 (a2_1 - 1))).f1)).bind fun t321 => (some (t321, 0))) else (none)) else (none)) else (none)) else (none)) else (some (([] : List (S68)), 1))) = some (r1, r2) := H
  have A6 := Aside0.mk A60
  clear A60
  by_cases c7 : t318 = true
  ·subst c7
   have H1 : (if 0 ≤ (wrap64 (a1_1 - 1)) then (if (wrap64 (a1_1 - 1)) < (l0_0.length : Int) then (if 0 ≤ (wrap64 (a2_1 - 1)) then (if (wrap64 (a2_1 - 1)) < (l0_0.length : Int) then ((impl_diff.f k ((rd_T64 l0_0 (wrap64 (a1_1 - 1))).f1) ((rd_T64 l0_0 (wrap64 (a2_1 - 1))).f1)).bind fun t321 => (some (t321, 0))) else (none)) else (none)) else (none)) else (none)) = some (r1, r2) := by rw [if_pos rfl] at H; exact H
   clear H
   have H := H1
   clear H1
   obtain ⟨ji8, hji8⟩ : ∃ j_ : Int, (wrap64 (a1_1 - 1)) = j_ := ⟨_, rfl⟩
   replace H : (if 0 ≤ (ji8) then (if (ji8) < (l0_0.length : Int) then (if 0 ≤ (wrap64 (a2_1 - 1)) then (if (wrap64 (a2_1 - 1)) < (l0_0.length : Int) then ((impl_diff.f k ((rd_T64 l0_0 (ji8)).f1) ((rd_T64 l0_0 (wrap64 (a2_1 - 1))).f1)).bind fun t321 => (some (t321, 0))) else (none)) else (none)) else (none)) else (none)) = some (r1, r2) := by first | (rw [hji8] at H; exact H) | (simp only [hji8] at H ⊢; exact H)
   (try rw [hji8] at A4)
   (try rw [hji8] at A6)
   have hji8w : (IntKind.i64.wrap (a1_1 - 1)) = ji8 := (i64_w _).trans hji8
   by_cases c9 : 0 ≤ (ji8)
   ·rw [if_pos c9] at H
    have c9b0 : decide (0 ≤ (ji8)) = true := decide_eq_true c9
    clear c9
    by_cases c10 : (ji8) < (l0_0.length : Int)
    ·rw [if_pos c10] at H
     have c10b0 : decide ((ji8) < (l0_0.length : Int)) = true := decide_eq_true c10
     clear c10
     obtain ⟨ji11, hji11⟩ : ∃ j_ : Int, (wrap64 (a2_1 - 1)) = j_ := ⟨_, rfl⟩
     replace H : (if 0 ≤ (ji11) then (if (ji11) < (l0_0.length : Int) then ((impl_diff.f k ((rd_T64 l0_0 (ji8)).f1) ((rd_T64 l0_0 (ji11)).f1)).bind fun t321 => (some (t321, 0))) else (none)) else (none)) = some (r1, r2) := by first | (rw [hji11] at H; exact H) | (simp only [hji11] at H ⊢; exact H)
     (try rw [hji11] at A4)
     (try rw [hji11] at A6)
     have hji11w : (IntKind.i64.wrap (a2_1 - 1)) = ji11 := (i64_w _).trans hji11
     by_cases c12 : 0 ≤ (ji11)
     ·rw [if_pos c12] at H
      have c12b0 : decide (0 ≤ (ji11)) = true := decide_eq_true c12
      clear c12
      by_cases c13 : (ji11) < (l0_0.length : Int)
      ·rw [if_pos c13] at H
       have c13b0 : decide ((ji11) < (l0_0.length : Int)) = true := decide_eq_true c13
       clear c13
       replace H := Option.bind_eq_some_iff.mp H
       obtain ⟨t321, A140, H⟩ := H
       replace H : (some (t321, 0)) = some (r1, r2) := H
       have A14 := Aside0.mk A140
       clear A140
       simp only [Option.some.injEq, Prod.mk.injEq] at H
       obtain ⟨rfl, rfl⟩ := H
       go_enter Tryz.func10, Tryz.ntmps10
       try go_wp2_with (first | ((with_reducible refine gate_dst (N := 3) rfl ?_); refine bE (N := 3) (cs := #[.slice A0_0 l0_0.length c0_0, .slice A0_1 l0_1.length c0_1]) (t := 36) ?_; intro gb314 hg w15 hbox hb; have n0_ := Aside0.mk (below_step (w := w) bW hb); have n1_ := Aside0.mk (hbox); have n2_ := Aside0.mk (gS (w := w) hg); have n3_ := n2_; clear HB; have HB := n0_; have BK314 := n1_; have GW314 := n2_; have GE314 := n3_; clear n0_ n1_ n2_ n3_; clear hb hbox hg) | ((with_reducible refine gate_dst (N := 4) rfl ?_); refine bE (N := 4) (cs := #[.string a1_0, .int .i64 a1_1]) (t := 38) ?_; intro gb315 hg w16 hbox hb; have n0_ := Aside0.mk (kb BK314 hb); have n1_ := Aside0.mk (below_step (w := w) bW hb); have n2_ := Aside0.mk (hbox); have n3_ := Aside0.mk (gS (w := w) hg); have n4_ := n3_; have n5_ := Aside0.mk (nL BK314 hg); have n6_ := Aside0.mk (nG BK314 hg); clear BK314; clear HB; have BK314 := n0_; have HB := n1_; have BK315 := n2_; have GW315 := n3_; have GE315 := n4_; have NB314_315 := n5_; have NB315_314 := n6_; clear n0_ n1_ n2_ n3_ n4_ n5_ n6_; clear hb hbox hg) | ((with_reducible refine gate_dst (N := 5) rfl ?_); refine bE (N := 5) (cs := #[.string a2_0, .int .i64 a2_1]) (t := 38) ?_; intro gb316 hg w17 hbox hb; have n0_ := Aside0.mk (kb BK314 hb); have n1_ := Aside0.mk (kb BK315 hb); have n2_ := Aside0.mk (below_step (w := w) bW hb); have n3_ := Aside0.mk (hbox); have n4_ := Aside0.mk (gS (w := w) hg); have n5_ := n4_; have n6_ := Aside0.mk (nL BK314 hg); have n7_ := Aside0.mk (nG BK314 hg); have n8_ := Aside0.mk (nL BK315 hg); have n9_ := Aside0.mk (nG BK315 hg); clear BK314; clear BK315; clear HB; have BK314 := n0_; have BK315 := n1_; have HB := n2_; have BK316 := n3_; have GW316 := n4_; have GE316 := n5_; have NB314_316 := n6_; have NB316_314 := n7_; have NB315_316 := n8_; have NB316_315 := n9_; clear n0_ n1_ n2_ n3_ n4_ n5_ n6_ n7_ n8_ n9_; clear hb hbox hg; have hnb18 := NB314_315.out; have hnc18 := NB315_314.out; have hnb19 := NB314_316.out; have hnc19 := NB316_314.out; obtain ⟨hcz20_0, hcz20_1⟩ := cz2 BK314; obtain ⟨hfz20_0, hfz20_1⟩ := fz2 BK314; have hnb21 := NB315_316.out; have hnc21 := NB316_315.out; obtain ⟨hcz22_0, hcz22_1⟩ := cz2 BK315; obtain ⟨hfz22_0, hfz22_1⟩ := fz2 BK315) | ((with_reducible refine gate_callee (f := 33) rfl ?_); refine goesL_ (some 10) rfl rfl Tryz.func33 (by kernel_rfl) rfl #[.agg #[.slice A0_0 l0_0.length c0_0, .slice A0_1 l0_1.length c0_1], .agg #[.string a1_0, .int .i64 a1_1]] rfl gA ?_; (with_reducible refine (impl_SnapOK.calls k _ _ l0_0 _ _ l0_1 a1_0 a1_1 true _ ?side1 ?side2 ?side3 ?side4 A4.out).mono ?_); (case side1 => exact cB HR0_0); (case side2 => exact HC0_0.out); (case side3 => exact cB HR0_1); (case side4 => exact HC0_1.out); rintro e w23 ⟨rfl, hb⟩; refine ⟨_, rfl, ?_⟩; have n0_ := Aside0.mk (kb BK314 hb); have n1_ := Aside0.mk (kb BK315 hb); have n2_ := Aside0.mk (kb BK316 hb); have n3_ := Aside0.mk (below_step (w := w) bW hb); clear BK314; clear BK315; clear BK316; clear HB; have BK314 := n0_; have BK315 := n1_; have BK316 := n2_; have HB := n3_; clear n0_ n1_ n2_ n3_; (try clear hb); (try clear hb2); (try clear hk); (try clear hi); obtain ⟨hcz24_0, hcz24_1⟩ := cz2 BK314; obtain ⟨hfz24_0, hfz24_1⟩ := fz2 BK314; obtain ⟨hcz25_0, hcz25_1⟩ := cz2 BK316; obtain ⟨hfz25_0, hfz25_1⟩ := fz2 BK316) | (go_at_call 33; (with_reducible refine (impl_SnapOK.calls k _ _ l0_0 _ _ l0_1 a2_0 a2_1 true _ ?side1 ?side2 ?side3 ?side4 A6.out).mono ?_); (case side1 => exact cB HR0_0); (case side2 => exact HC0_0.out); (case side3 => exact cB HR0_1); (case side4 => exact HC0_1.out); rintro e w26 ⟨rfl, hb⟩; have n0_ := Aside0.mk (kb BK314 hb); have n1_ := Aside0.mk (kb BK315 hb); have n2_ := Aside0.mk (kb BK316 hb); have n3_ := Aside0.mk (below_step (w := w) bW hb); clear BK314; clear BK315; clear BK316; clear HB; have BK314 := n0_; have BK315 := n1_; have BK316 := n2_; have HB := n3_; clear n0_ n1_ n2_ n3_; (try clear hb); (try clear hb2); (try clear hk); (try clear hi)))
       have n0_ := Aside0.mk (blk_drew BK314.out)
       have n1_ := Aside0.mk (blk_drew BK315.out)
       have n2_ := Aside0.mk (blk_drew BK316.out)
       have n3_ := Aside0.mk (below_drew1 HB.out)
       clear BK314
       clear BK315
       clear BK316
       clear HB
       have BK314 := n0_
       have BK315 := n1_
       have BK316 := n2_
       have HB := n3_
       clear n0_ n1_ n2_ n3_
       have p319 : 0 ≤ ((ji8) : Int) := odt
       have q319 : (ji8) < (l0_0.length : Int) := odt
       obtain ⟨ad319, A319_0, c319_0, A319_1, c319_1, e319, hx319_0, hx319_1, hl319_0, hi319_0, hl319_1, hi319_1⟩ := at_T64 HR0_0.out (ji8) p319 q319
       have hw319_1 := hx319_1
       have hw319_0 := hx319_0
       cases e319
       replace hx319_0 := (HB.out.cell (World.block_lt_of_cell? w _ hx319_0)).trans hx319_0
       replace hx319_1 := (HB.out.cell (World.block_lt_of_cell? w _ hx319_1)).trans hx319_1
       have HR319_0 := Aside0.mk hi319_0
       have HC319_0 := Aside0.mk hl319_0
       clear hi319_0 hl319_0
       have HR319_1 := Aside0.mk hi319_1
       have HC319_1 := Aside0.mk hl319_1
       clear hi319_1 hl319_1
       replace p319 := eq_true p319
       replace q319 := eq_true q319
       have p320 : 0 ≤ ((ji11) : Int) := odt
       have q320 : (ji11) < (l0_0.length : Int) := odt
       obtain ⟨ad320, A320_0, c320_0, A320_1, c320_1, e320, hx320_0, hx320_1, hl320_0, hi320_0, hl320_1, hi320_1⟩ := at_T64 HR0_0.out (ji11) p320 q320
       have hw320_1 := hx320_1
       have hw320_0 := hx320_0
       obtain rfl : ad319 = ad320 := (by injection e320)
       replace hx320_0 := (HB.out.cell (World.block_lt_of_cell? w _ hx320_0)).trans hx320_0
       replace hx320_1 := (HB.out.cell (World.block_lt_of_cell? w _ hx320_1)).trans hx320_1
       have HR320_0 := Aside0.mk hi320_0
       have HC320_0 := Aside0.mk hl320_0
       clear hi320_0 hl320_0
       have HR320_1 := Aside0.mk hi320_1
       have HC320_1 := Aside0.mk hl320_1
       clear hi320_1 hl320_1
       replace p320 := eq_true p320
       replace q320 := eq_true q320
       refine start_ (n := 19) (S := fun w' => w'.cell? ⟨gb314, 0, none⟩ = some (.slice (some ad319) l0_0.length c0_0) ∧ w'.cell? ⟨gb314, 1, none⟩ = some (.slice A0_1 l0_1.length c0_1) ∧ w'.cell? ⟨gb315, 0, none⟩ = some (.string a1_0) ∧ w'.cell? ⟨gb315, 1, none⟩ = some (.int .i64 a1_1) ∧ w'.cell? ⟨gb316, 0, none⟩ = some (.string a2_0) ∧ w'.cell? ⟨gb316, 1, none⟩ = some (.int .i64 a2_1) ∧ w'.cell? (ad319.add (((ji8)).toNat * 2)) = some (.slice A319_0 ((rd_T64 l0_0 (ji8)).f0).length c319_0) ∧ w'.cell? ⟨(ad319.add (((ji8)).toNat * 2)).block, (ad319.add (((ji8)).toNat * 2)).off + 1, none⟩ = some (.slice A319_1 ((rd_T64 l0_0 (ji8)).f1).length c319_1) ∧ w'.cell? (ad319.add (((ji11)).toNat * 2)) = some (.slice A320_0 ((rd_T64 l0_0 (ji11)).f0).length c320_0) ∧ w'.cell? ⟨(ad319.add (((ji11)).toNat * 2)).block, (ad319.add (((ji11)).toNat * 2)).off + 1, none⟩ = some (.slice A320_1 ((rd_T64 l0_0 (ji11)).f1).length c320_1)) (ds := []) #[false, false, false, false, false, false, false, false, false, false, false, false, false, false, false, false, false, false, false] (by kernel_rfl) rfl rfl ⟨(blk_cell BK314.out 0).trans rfl, (blk_cell BK314.out 1).trans rfl, (blk_cell BK315.out 0).trans rfl, (blk_cell BK315.out 1).trans rfl, (blk_cell BK316.out 0).trans rfl, (blk_cell BK316.out 1).trans rfl, ((HB.out.cell (World.block_lt_of_cell? w _ hw319_0)).trans hw319_0), ((HB.out.cell (World.block_lt_of_cell? w _ hw319_1)).trans hw319_1), ((HB.out.cell (World.block_lt_of_cell? w _ hw320_0)).trans hw320_0), ((HB.out.cell (World.block_lt_of_cell? w _ hw320_1)).trans hw320_1)⟩ (fun hHeld => ?_); refine with_tabW impl_DiffSnaps.tab3 impl_DiffSnaps.bits3 (fun HT_ HW_ => ?_)
       generalize w26.drew = w27 at BK314 BK315 BK316 HB HR319_0 HR319_1 HR320_0 HR320_1 hx319_0 hx319_1 hx320_0 hx320_1 hHeld ⊢
       refine pure_ (i := 0) (N := some 18) (v := ?_) (a' := ?_) #[true, false, false, false, false, false, false, false, false, false, false, false, false, false, false, false, false, false, false] rfl rfl (any_of HT_.out (by kernel_rfl)) (fun _ _ _ h => h) (Or.inl ⟨by rfl, ?_⟩) ?_ ?_
       rotate_left
       ·intro w'
        go_simp
        with_reducible rfl
       rotate_left
       ·simp only [Act.put, List.setIfInBounds_toArray, List.set_cons_zero, List.set_cons_succ, i64_w, i32_w]
        rfl
       refine pure_ (i := 2) (N := some 20) (v := ?_) (a' := ?_) #[true, false, true, false, false, false, false, false, false, false, false, false, false, false, false, false, false, false, false] rfl rfl (any_of HT_.out (by kernel_rfl)) (fun _ _ _ h => h) (Or.inl ⟨by rfl, ?_⟩) ?_ ?_
       rotate_left
       ·intro w'
        go_simp
        with_reducible rfl
       rotate_left
       ·simp only [Act.put, List.setIfInBounds_toArray, List.set_cons_zero, List.set_cons_succ, i64_w, i32_w]
        rfl
       refine pure_ (i := 8) (N := some 26) (v := ?_) (a' := ?_) #[true, false, true, false, false, false, false, false, true, false, false, false, false, false, false, false, false, false, false] rfl rfl (any_of HT_.out (by kernel_rfl)) (fun _ _ _ h => h) (Or.inl ⟨by rfl, ?_⟩) ?_ ?_
       rotate_left
       ·intro w'
        go_simp
        with_reducible rfl
       rotate_left
       ·simp only [Act.put, List.setIfInBounds_toArray, List.set_cons_zero, List.set_cons_succ, i64_w, i32_w]
        rfl
       refine pure_ (i := 10) (N := some 28) (v := ?_) (a' := ?_) #[true, false, true, false, false, false, false, false, true, false, true, false, false, false, false, false, false, false, false] rfl rfl (any_of HT_.out (by kernel_rfl)) (fun _ _ _ h => h) (Or.inl ⟨by rfl, ?_⟩) ?_ ?_
       rotate_left
       ·intro w'
        go_simp
        with_reducible rfl
       rotate_left
       ·simp only [Act.put, List.setIfInBounds_toArray, List.set_cons_zero, List.set_cons_succ, i64_w, i32_w]
        rfl
       refine take_ (i := 1) (N := some 19) (v := ?_) (a' := ?_) #[true, true, true, false, false, false, false, false, true, false, true, false, false, false, false, false, false, false, false] rfl rfl (take_ofW HT_.out HW_.out (by kernel_rfl)) (fun _ _ _ h => h) (Or.inl ⟨by rfl, ?_⟩) hHeld ?_ ?_
       rotate_left
       ·rintro w' ⟨s0, s1, s2, s3, s4, s5, s6, s7, s8, s9⟩
        go_simp
        with_reducible rfl
       rotate_left
       ·simp only [Act.put, List.setIfInBounds_toArray, List.set_cons_zero, List.set_cons_succ, i64_w, i32_w]
        rfl
       refine take_ (i := 3) (N := some 21) (v := ?_) (a' := ?_) #[true, true, true, true, false, false, false, false, true, false, true, false, false, false, false, false, false, false, false] rfl rfl (take_ofW HT_.out HW_.out (by kernel_rfl)) (fun _ _ _ h => h) (Or.inl ⟨by rfl, ?_⟩) hHeld ?_ ?_
       rotate_left
       ·rintro w' ⟨s0, s1, s2, s3, s4, s5, s6, s7, s8, s9⟩
        go_simp
        with_reducible rfl
       rotate_left
       ·simp only [Act.put, List.setIfInBounds_toArray, List.set_cons_zero, List.set_cons_succ, i64_w, i32_w]
        rfl
       refine pure_ (i := 4) (N := some 22) (v := ?_) (a' := ?_) #[true, true, true, true, true, false, false, false, true, false, true, false, false, false, false, false, false, false, false] rfl rfl (any_of HT_.out (by kernel_rfl)) (fun _ _ _ h => h) (Or.inl ⟨by rfl, ?_⟩) ?_ ?_
       rotate_left
       ·intro w'
        go_simp
        with_reducible rfl
       rotate_left
       ·simp only [Act.put, List.setIfInBounds_toArray, List.set_cons_zero, List.set_cons_succ, i64_w, i32_w]
        rfl
       refine pure_ (i := 5) (N := some 23) (v := ?_) (a' := ?_) #[true, true, true, true, true, true, false, false, true, false, true, false, false, false, false, false, false, false, false] rfl rfl (any_of HT_.out (by kernel_rfl)) (fun _ _ _ h => h) (Or.inl ⟨by rfl, ?_⟩) ?_ ?_
       rotate_left
       ·intro w'
        go_simp
        with_reducible rfl
       rotate_left
       ·simp only [Act.put, List.setIfInBounds_toArray, List.set_cons_zero, List.set_cons_succ, i64_w, i32_w]
        rfl
       refine pure_ (i := 6) (N := some 24) (v := ?_) (a' := ?_) #[true, true, true, true, true, true, true, false, true, false, true, false, false, false, false, false, false, false, false] rfl rfl (any_of HT_.out (by kernel_rfl)) (fun _ _ _ h => h) (Or.inl ⟨by rfl, ?_⟩) ?_ ?_
       rotate_left
       ·intro w'
        go_simp
        with_reducible rfl
       rotate_left
       ·simp only [Act.put, List.setIfInBounds_toArray, List.set_cons_zero, List.set_cons_succ, i64_w, i32_w]
        rfl
       refine take_ (i := 7) (N := some 25) (v := ?_) (a' := ?_) #[true, true, true, true, true, true, true, true, true, false, true, false, false, false, false, false, false, false, false] rfl rfl (take_ofW HT_.out HW_.out (by kernel_rfl)) (fun _ _ _ h => h) (Or.inl ⟨by rfl, ?_⟩) hHeld ?_ ?_
       rotate_left
       ·rintro w' ⟨s0, s1, s2, s3, s4, s5, s6, s7, s8, s9⟩
        go_simp
        with_reducible rfl
       rotate_left
       ·simp only [Act.put, List.setIfInBounds_toArray, List.set_cons_zero, List.set_cons_succ, i64_w, i32_w]
        rfl
       refine take_ (i := 9) (N := some 27) (v := ?_) (a' := ?_) #[true, true, true, true, true, true, true, true, true, true, true, false, false, false, false, false, false, false, false] rfl rfl (take_ofW HT_.out HW_.out (by kernel_rfl)) (fun _ _ _ h => h) (Or.inl ⟨by rfl, ?_⟩) hHeld ?_ ?_
       rotate_left
       ·rintro w' ⟨s0, s1, s2, s3, s4, s5, s6, s7, s8, s9⟩
        go_simp
        with_reducible rfl
       rotate_left
       ·simp only [Act.put, List.setIfInBounds_toArray, List.set_cons_zero, List.set_cons_succ, i64_w, i32_w]
        rfl
       refine take_ (i := 11) (N := some 29) (v := ?_) (a' := ?_) #[true, true, true, true, true, true, true, true, true, true, true, true, false, false, false, false, false, false, false] rfl rfl (take_ofW HT_.out HW_.out (by kernel_rfl)) (fun _ _ _ h => h) (Or.inl ⟨by rfl, ?_⟩) hHeld ?_ ?_
       rotate_left
       ·rintro w' ⟨s0, s1, s2, s3, s4, s5, s6, s7, s8, s9⟩
        go_simp
        with_reducible rfl
       rotate_left
       ·simp only [Act.put, List.setIfInBounds_toArray, List.set_cons_zero, List.set_cons_succ, i64_w, i32_w]
        rfl
       refine pure_ (i := 12) (N := some 30) (v := ?_) (a' := ?_) #[true, true, true, true, true, true, true, true, true, true, true, true, true, false, false, false, false, false, false] rfl rfl (any_of HT_.out (by kernel_rfl)) (fun _ _ _ h => h) (Or.inl ⟨by rfl, ?_⟩) ?_ ?_
       rotate_left
       ·intro w'
        go_simp
        with_reducible rfl
       rotate_left
       ·simp only [Act.put, List.setIfInBounds_toArray, List.set_cons_zero, List.set_cons_succ, i64_w, i32_w]
        rfl
       refine pure_ (i := 13) (N := some 31) (v := ?_) (a' := ?_) #[true, true, true, true, true, true, true, true, true, true, true, true, true, true, false, false, false, false, false] rfl rfl (any_of HT_.out (by kernel_rfl)) (fun _ _ _ h => h) (Or.inl ⟨by rfl, ?_⟩) ?_ ?_
       rotate_left
       ·intro w'
        go_simp
        with_reducible rfl
       rotate_left
       ·simp only [Act.put, List.setIfInBounds_toArray, List.set_cons_zero, List.set_cons_succ, i64_w, i32_w]
        rfl
       refine pure_ (i := 14) (N := some 32) (v := ?_) (a' := ?_) #[true, true, true, true, true, true, true, true, true, true, true, true, true, true, true, false, false, false, false] rfl rfl (any_of HT_.out (by kernel_rfl)) (fun _ _ _ h => h) (Or.inl ⟨by rfl, ?_⟩) ?_ ?_
       rotate_left
       ·intro w'
        go_simp
        with_reducible rfl
       rotate_left
       ·simp only [Act.put, List.setIfInBounds_toArray, List.set_cons_zero, List.set_cons_succ, i64_w, i32_w]
        rfl
       refine take_ (i := 15) (N := some 33) (v := ?_) (a' := ?_) #[true, true, true, true, true, true, true, true, true, true, true, true, true, true, true, true, false, false, false] rfl rfl (take_ofW HT_.out HW_.out (by kernel_rfl)) (fun _ _ _ h => h) (Or.inl ⟨by rfl, ?_⟩) hHeld ?_ ?_
       rotate_left
       ·rintro w' ⟨s0, s1, s2, s3, s4, s5, s6, s7, s8, s9⟩
        go_simp
        with_reducible rfl
       rotate_left
       ·simp only [Act.put, List.setIfInBounds_toArray, List.set_cons_zero, List.set_cons_succ, i64_w, i32_w]
        rfl
       refine one_ (i := 16) (N := some 34) #[true, true, true, true, true, true, true, true, true, true, true, true, true, true, true, true, true, false, false] rfl rfl (one_of HT_.out (by kernel_rfl)) (by decide) (fun K hK => ?_)
       refine goes_ Tryz.func34 (by kernel_rfl) rfl #[.slice A319_1 ((rd_T64 l0_0 (ji8)).f1).length c319_1, .slice A320_1 ((rd_T64 l0_0 (ji11)).f1).length c320_1] (by rfl) rfl rfl (by (try simp only [List.map_toArray, List.map_cons, List.map_nil]); first | done | (simp only [hji11, hji8]; rfl) | rfl | (simp only [List.length_drop, List.length_take]; rfl)) ?_
       with_reducible refine (impl_diff.calls k _ _ ((rd_T64 l0_0 (ji8)).f1) _ _ ((rd_T64 l0_0 (ji11)).f1) t321 _ ?side1 ?side2 ?side3 ?side4 A14.out).mono ?_
       (case side1 => exact cB HR319_1)
       (case side2 => exact HC319_1.out)
       (case side3 => exact cB HR320_1)
       (case side4 => exact HC320_1.out)
       rintro e w28 ⟨v322, rfl, ho0, hb⟩
       refine ⟨_, rfl, ?_⟩
       have n0_ := Aside0.mk (Kd.R_lower ho0 (below_size (w := w) bW))
       have n1_ := Aside0.mk (kb BK314 hb)
       have n2_ := Aside0.mk (kb BK315 hb)
       have n3_ := Aside0.mk (kb BK316 hb)
       have n4_ := Aside0.mk (below_step (w := w) bW hb)
       clear BK314
       clear BK315
       clear BK316
       clear HB
       have HO323 := n0_
       have BK314 := n1_
       have BK315 := n2_
       have BK316 := n3_
       have HB := n4_
       clear n0_ n1_ n2_ n3_ n4_
       (try clear hb)
       (try clear hb2)
       (try clear hk)
       (try clear hi)
       (try clear ho0)
       refine hK.out _ _ ⟨(blk_cell BK314.out 0).trans rfl, (blk_cell BK314.out 1).trans rfl, (blk_cell BK315.out 0).trans rfl, (blk_cell BK315.out 1).trans rfl, (blk_cell BK316.out 0).trans rfl, (blk_cell BK316.out 1).trans rfl, ((HB.out.cell (World.block_lt_of_cell? w _ hw319_0)).trans hw319_0), ((HB.out.cell (World.block_lt_of_cell? w _ hw319_1)).trans hw319_1), ((HB.out.cell (World.block_lt_of_cell? w _ hw320_0)).trans hw320_0), ((HB.out.cell (World.block_lt_of_cell? w _ hw320_1)).trans hw320_1)⟩ (fun hHeld => ?_)
       clear hK K
       refine norm_ (a' := ?_) ?_ ?_
       rotate_left
       ·show Act.put _ (some 34) _ = _
        simp only [Act.put, List.setIfInBounds_toArray, List.set_cons_zero, List.set_cons_succ, i64_w, i32_w]
        rfl
       refine pure_ (i := 17) (N := some 6) (v := ?_) (a' := ?_) #[true, true, true, true, true, true, true, true, true, true, true, true, true, true, true, true, true, true, false] rfl rfl (any_of HT_.out (by kernel_rfl)) (fun _ _ _ h => h) (Or.inl ⟨by rfl, ?_⟩) ?_ ?_
       rotate_left
       ·intro w'
        go_simp
        with_reducible rfl
       rotate_left
       ·simp only [Act.put, List.setIfInBounds_toArray, List.set_cons_zero, List.set_cons_succ, i64_w, i32_w]
        rfl
       refine pure_ (i := 18) (N := some 7) (v := ?_) (a' := ?_) #[true, true, true, true, true, true, true, true, true, true, true, true, true, true, true, true, true, true, true] rfl rfl (any_of HT_.out (by kernel_rfl)) (fun _ _ _ h => h) (Or.inl ⟨by rfl, ?_⟩) ?_ ?_
       rotate_left
       ·intro w'
        go_simp
        with_reducible rfl
       rotate_left
       ·simp only [Act.put, List.setIfInBounds_toArray, List.set_cons_zero, List.set_cons_succ, i64_w, i32_w]
        rfl
       refine done_ (done_of HT_.out (by kernel_rfl)) ?_
       try go_wp2
       go_ret2
       exact ⟨_, by first | rfl | (simp [errW_none, errW_some] <;> rfl) | (simp only [← hji8, ← hji11]; first | rfl | (simp [errW_none, errW_some] <;> rfl)) | (simp [*, errW_none, errW_some] <;> rfl), by (with_reducible repeat (first | apply Kd.R_alloc | apply Kd.R_drewN | apply Kd.R_drew)); exact HO323.out, bW⟩
      ·rw [if_neg c13] at H
       exact absurd H (by simp)
     ·rw [if_neg c12] at H
      exact absurd H (by simp)
    ·rw [if_neg c10] at H
     exact absurd H (by simp)
   ·rw [if_neg c9] at H
    exact absurd H (by simp)
  ·replace c7 := Bool.eq_false_iff.mpr c7
   subst c7
   have H1 : (some (([] : List (S68)), 1)) = some (r1, r2) := by rw [if_neg (show ¬ (false = true) by decide)] at H; exact H
   clear H
   have H := H1
   clear H1
   simp only [Option.some.injEq, Prod.mk.injEq] at H
   obtain ⟨rfl, rfl⟩ := H
   go_enter Tryz.func10, Tryz.ntmps10
   go_wp2_with (first | ((with_reducible refine gate_dst (N := 3) rfl ?_); refine bE (N := 3) (cs := #[.slice A0_0 l0_0.length c0_0, .slice A0_1 l0_1.length c0_1]) (t := 36) ?_; intro gb314 hg w29 hbox hb; have n0_ := Aside0.mk (below_step (w := w) bW hb); have n1_ := Aside0.mk (hbox); have n2_ := Aside0.mk (gS (w := w) hg); have n3_ := n2_; clear HB; have HB := n0_; have BK314 := n1_; have GW314 := n2_; have GE314 := n3_; clear n0_ n1_ n2_ n3_; clear hb hbox hg) | ((with_reducible refine gate_dst (N := 4) rfl ?_); refine bE (N := 4) (cs := #[.string a1_0, .int .i64 a1_1]) (t := 38) ?_; intro gb315 hg w30 hbox hb; have n0_ := Aside0.mk (kb BK314 hb); have n1_ := Aside0.mk (below_step (w := w) bW hb); have n2_ := Aside0.mk (hbox); have n3_ := Aside0.mk (gS (w := w) hg); have n4_ := n3_; have n5_ := Aside0.mk (nL BK314 hg); have n6_ := Aside0.mk (nG BK314 hg); clear BK314; clear HB; have BK314 := n0_; have HB := n1_; have BK315 := n2_; have GW315 := n3_; have GE315 := n4_; have NB314_315 := n5_; have NB315_314 := n6_; clear n0_ n1_ n2_ n3_ n4_ n5_ n6_; clear hb hbox hg) | ((with_reducible refine gate_dst (N := 5) rfl ?_); refine bE (N := 5) (cs := #[.string a2_0, .int .i64 a2_1]) (t := 38) ?_; intro gb316 hg w31 hbox hb; have n0_ := Aside0.mk (kb BK314 hb); have n1_ := Aside0.mk (kb BK315 hb); have n2_ := Aside0.mk (below_step (w := w) bW hb); have n3_ := Aside0.mk (hbox); have n4_ := Aside0.mk (gS (w := w) hg); have n5_ := n4_; have n6_ := Aside0.mk (nL BK314 hg); have n7_ := Aside0.mk (nG BK314 hg); have n8_ := Aside0.mk (nL BK315 hg); have n9_ := Aside0.mk (nG BK315 hg); clear BK314; clear BK315; clear HB; have BK314 := n0_; have BK315 := n1_; have HB := n2_; have BK316 := n3_; have GW316 := n4_; have GE316 := n5_; have NB314_316 := n6_; have NB316_314 := n7_; have NB315_316 := n8_; have NB316_315 := n9_; clear n0_ n1_ n2_ n3_ n4_ n5_ n6_ n7_ n8_ n9_; clear hb hbox hg; have hnb32 := NB314_315.out; have hnc32 := NB315_314.out; have hnb33 := NB314_316.out; have hnc33 := NB316_314.out; obtain ⟨hcz34_0, hcz34_1⟩ := cz2 BK314; obtain ⟨hfz34_0, hfz34_1⟩ := fz2 BK314; have hnb35 := NB315_316.out; have hnc35 := NB316_315.out; obtain ⟨hcz36_0, hcz36_1⟩ := cz2 BK315; obtain ⟨hfz36_0, hfz36_1⟩ := fz2 BK315) | ((with_reducible refine gate_callee (f := 33) rfl ?_); refine goesL_ (some 10) rfl rfl Tryz.func33 (by kernel_rfl) rfl #[.agg #[.slice A0_0 l0_0.length c0_0, .slice A0_1 l0_1.length c0_1], .agg #[.string a1_0, .int .i64 a1_1]] rfl gA ?_; (with_reducible refine (impl_SnapOK.calls k _ _ l0_0 _ _ l0_1 a1_0 a1_1 true _ ?side1 ?side2 ?side3 ?side4 A4.out).mono ?_); (case side1 => exact cB HR0_0); (case side2 => exact HC0_0.out); (case side3 => exact cB HR0_1); (case side4 => exact HC0_1.out); rintro e w37 ⟨rfl, hb⟩; refine ⟨_, rfl, ?_⟩; have n0_ := Aside0.mk (kb BK314 hb); have n1_ := Aside0.mk (kb BK315 hb); have n2_ := Aside0.mk (kb BK316 hb); have n3_ := Aside0.mk (below_step (w := w) bW hb); clear BK314; clear BK315; clear BK316; clear HB; have BK314 := n0_; have BK315 := n1_; have BK316 := n2_; have HB := n3_; clear n0_ n1_ n2_ n3_; (try clear hb); (try clear hb2); (try clear hk); (try clear hi); obtain ⟨hcz38_0, hcz38_1⟩ := cz2 BK314; obtain ⟨hfz38_0, hfz38_1⟩ := fz2 BK314; obtain ⟨hcz39_0, hcz39_1⟩ := cz2 BK316; obtain ⟨hfz39_0, hfz39_1⟩ := fz2 BK316) | (go_at_call 33; (with_reducible refine (impl_SnapOK.calls k _ _ l0_0 _ _ l0_1 a2_0 a2_1 false _ ?side1 ?side2 ?side3 ?side4 A6.out).mono ?_); (case side1 => exact cB HR0_0); (case side2 => exact HC0_0.out); (case side3 => exact cB HR0_1); (case side4 => exact HC0_1.out); rintro e w40 ⟨rfl, hb⟩; have n0_ := Aside0.mk (kb BK314 hb); have n1_ := Aside0.mk (kb BK315 hb); have n2_ := Aside0.mk (kb BK316 hb); have n3_ := Aside0.mk (below_step (w := w) bW hb); clear BK314; clear BK315; clear BK316; clear HB; have BK314 := n0_; have BK315 := n1_; have BK316 := n2_; have HB := n3_; clear n0_ n1_ n2_ n3_; (try clear hb); (try clear hb2); (try clear hk); (try clear hi)))
   go_ret2
   exact ⟨_, by first | rfl | (simp [errW_none, errW_some] <;> rfl) | (simp [*, errW_none, errW_some] <;> rfl), by first | exact Kd.R_nil _ _ _ _ _ | exact Kd.N_nil _ _ _ _ _ | exact Kd.V_nil _ _ _ _ _ | exact Kd.Q_nil _ _ _ _ _ | exact Kd.S_nil _ _ _ _ _, bW⟩
 ·replace c5 := Bool.eq_false_iff.mpr c5
  subst c5
  have H1 : (some (([] : List (S68)), 1)) = some (r1, r2) := by rw [if_neg (show ¬ (false = true) by decide)] at H; exact H
  clear H
  have H := H1
  clear H1
  simp only [Option.some.injEq, Prod.mk.injEq] at H
  obtain ⟨rfl, rfl⟩ := H
  go_enter Tryz.func10, Tryz.ntmps10
  go_wp2_with (first | ((with_reducible refine gate_dst (N := 3) rfl ?_); refine bE (N := 3) (cs := #[.slice A0_0 l0_0.length c0_0, .slice A0_1 l0_1.length c0_1]) (t := 36) ?_; intro gb314 hg w41 hbox hb; have n0_ := Aside0.mk (below_step (w := w) bW hb); have n1_ := Aside0.mk (hbox); have n2_ := Aside0.mk (gS (w := w) hg); have n3_ := n2_; clear HB; have HB := n0_; have BK314 := n1_; have GW314 := n2_; have GE314 := n3_; clear n0_ n1_ n2_ n3_; clear hb hbox hg) | ((with_reducible refine gate_dst (N := 4) rfl ?_); refine bE (N := 4) (cs := #[.string a1_0, .int .i64 a1_1]) (t := 38) ?_; intro gb315 hg w42 hbox hb; have n0_ := Aside0.mk (kb BK314 hb); have n1_ := Aside0.mk (below_step (w := w) bW hb); have n2_ := Aside0.mk (hbox); have n3_ := Aside0.mk (gS (w := w) hg); have n4_ := n3_; have n5_ := Aside0.mk (nL BK314 hg); have n6_ := Aside0.mk (nG BK314 hg); clear BK314; clear HB; have BK314 := n0_; have HB := n1_; have BK315 := n2_; have GW315 := n3_; have GE315 := n4_; have NB314_315 := n5_; have NB315_314 := n6_; clear n0_ n1_ n2_ n3_ n4_ n5_ n6_; clear hb hbox hg) | ((with_reducible refine gate_dst (N := 5) rfl ?_); refine bE (N := 5) (cs := #[.string a2_0, .int .i64 a2_1]) (t := 38) ?_; intro gb316 hg w43 hbox hb; have n0_ := Aside0.mk (kb BK314 hb); have n1_ := Aside0.mk (kb BK315 hb); have n2_ := Aside0.mk (below_step (w := w) bW hb); have n3_ := Aside0.mk (hbox); have n4_ := Aside0.mk (gS (w := w) hg); have n5_ := n4_; have n6_ := Aside0.mk (nL BK314 hg); have n7_ := Aside0.mk (nG BK314 hg); have n8_ := Aside0.mk (nL BK315 hg); have n9_ := Aside0.mk (nG BK315 hg); clear BK314; clear BK315; clear HB; have BK314 := n0_; have BK315 := n1_; have HB := n2_; have BK316 := n3_; have GW316 := n4_; have GE316 := n5_; have NB314_316 := n6_; have NB316_314 := n7_; have NB315_316 := n8_; have NB316_315 := n9_; clear n0_ n1_ n2_ n3_ n4_ n5_ n6_ n7_ n8_ n9_; clear hb hbox hg; have hnb44 := NB314_315.out; have hnc44 := NB315_314.out; have hnb45 := NB314_316.out; have hnc45 := NB316_314.out; obtain ⟨hcz46_0, hcz46_1⟩ := cz2 BK314; obtain ⟨hfz46_0, hfz46_1⟩ := fz2 BK314; have hnb47 := NB315_316.out; have hnc47 := NB316_315.out; obtain ⟨hcz48_0, hcz48_1⟩ := cz2 BK315; obtain ⟨hfz48_0, hfz48_1⟩ := fz2 BK315) | ((with_reducible refine gate_callee (f := 33) rfl ?_); refine goesL_ (some 10) rfl rfl Tryz.func33 (by kernel_rfl) rfl #[.agg #[.slice A0_0 l0_0.length c0_0, .slice A0_1 l0_1.length c0_1], .agg #[.string a1_0, .int .i64 a1_1]] rfl gA ?_; (with_reducible refine (impl_SnapOK.calls k _ _ l0_0 _ _ l0_1 a1_0 a1_1 false _ ?side1 ?side2 ?side3 ?side4 A4.out).mono ?_); (case side1 => exact cB HR0_0); (case side2 => exact HC0_0.out); (case side3 => exact cB HR0_1); (case side4 => exact HC0_1.out); rintro e w49 ⟨rfl, hb⟩; refine ⟨_, rfl, ?_⟩; have n0_ := Aside0.mk (kb BK314 hb); have n1_ := Aside0.mk (kb BK315 hb); have n2_ := Aside0.mk (kb BK316 hb); have n3_ := Aside0.mk (below_step (w := w) bW hb); clear BK314; clear BK315; clear BK316; clear HB; have BK314 := n0_; have BK315 := n1_; have BK316 := n2_; have HB := n3_; clear n0_ n1_ n2_ n3_; (try clear hb); (try clear hb2); (try clear hk); (try clear hi)))
  go_ret2
  exact ⟨_, by first | rfl | (simp [errW_none, errW_some] <;> rfl) | (simp [*, errW_none, errW_some] <;> rfl), by first | exact Kd.R_nil _ _ _ _ _ | exact Kd.N_nil _ _ _ _ _ | exact Kd.V_nil _ _ _ _ _ | exact Kd.Q_nil _ _ _ _ _ | exact Kd.S_nil _ _ _ _ _, bW⟩
end Go.Proofs.YtblejbgkcgajgaaGreat.Q
end

section
namespace Go.Proofs.YtblejbgkcgajgaaGreat.Q
open Go.RowKit Go.Proofs.YtblejbgkcgajgaaGreatW.PrintWords Go.Proofs.YtblejbgkcgajgaaGreatW.PrintLast Go.Proofs.YtblejbgkcgajgaaGreatW.PrintMore
attribute [local go_sem] max2_int min2_int max_two min_two max_three min_three max_four min_four   -- for this text's walks alone
set_option linter.unusedVariables false
set_option linter.unusedSimpArgs false
attribute [local go_sem] bin_leq bin_gtr bin_geq
def laws_eqEdit.f (a0_0 : ByteArray) (a0_1 : Int) (a0_2 : Bool) (a1_0 : ByteArray) (a1_1 : Int) (a1_2 : Bool) : Option (Bool) := if a0_0.toList = a1_0.toList then (if a0_1 = a1_1 then (if (a0_2 != a1_2) = true then (some false) else (some true)) else (some false)) else (some false)
set_option maxHeartbeats 8000000 in
set_option maxRecDepth 100000 in
theorem laws_eqEdit.calls (a0_0 : ByteArray) (a0_1 : Int) (a0_2 : Bool) (a1_0 : ByteArray) (a1_1 : Int) (a1_2 : Bool) (r : Bool) (w : World) (h : laws_eqEdit.f a0_0 a0_1 a0_2 a1_0 a1_1 a1_2 = some r) :
    Calls Tryz.prog 35 #[.agg #[.string a0_0, .int .i64 a0_1, .bool a0_2], .agg #[.string a1_0, .int .i64 a1_1, .bool a1_2]] w fun e w' => e = .returned (.bool r) ∧ Below w.heap.size w w' := by
  have hu68 := Tryz.underlying68
  have HB := Aside0.mk (Below.refl w.heap.size w)
  have H : (if a0_0.toList = a1_0.toList then (if a0_1 = a1_1 then (if (a0_2 != a1_2) = true then (some false) else (some true)) else (some false)) else (some false)) = some r := h
  clear h
  by_cases c3 : a0_0.toList = a1_0.toList
  · rw [if_pos c3] at H
    have c3b0 : (a0_0.toList == a1_0.toList) = true := beq_iff_eq.mpr c3
    have c3b1 : (a0_0.toList != a1_0.toList) = false := bne_eq_false_iff_eq.mpr c3
    clear c3
    by_cases c4 : a0_1 = a1_1
    · rw [if_pos c4] at H
      have c4b0 : (a0_1 == a1_1) = true := beq_iff_eq.mpr c4
      have c4b1 : (a0_1 != a1_1) = false := bne_eq_false_iff_eq.mpr c4
      clear c4
      by_cases c5 : (a0_2 != a1_2) = true
      · rw [if_pos c5] at H
        have c5b0 : (a0_2 != a1_2) = true := c5
        (try (have c5b1 : decide (a0_2 = a1_2) = false := by simpa using c5))
        (try (have c5b2 : (a0_2 == a1_2) = false := by simpa using c5))
        (try (have c5b3 : ¬ (a0_2 = a1_2) := by simpa using c5))
        clear c5
        obtain rfl := Option.some.inj H
        go_enter Tryz.func35, Tryz.ntmps35
        go_wp2_with (first | ((with_reducible refine gate_dst (N := 2) rfl ?_); refine bE (N := 2) (cs := #[.string a0_0, .int .i64 a0_1, .bool a0_2]) (t := 68) ?_; intro gb324 hg w6 hbox hb; have n0_ := Aside0.mk (below_step (w := w) bW hb); have n1_ := Aside0.mk (hbox); have n2_ := Aside0.mk (gS (w := w) hg); have n3_ := n2_; clear HB; have HB := n0_; have BK324 := n1_; have GW324 := n2_; have GE324 := n3_; clear n0_ n1_ n2_ n3_; clear hb hbox hg) | ((with_reducible refine gate_dst (N := 3) rfl ?_); refine bE (N := 3) (cs := #[.string a1_0, .int .i64 a1_1, .bool a1_2]) (t := 68) ?_; intro gb325 hg w7 hbox hb; have n0_ := Aside0.mk (kb BK324 hb); have n1_ := Aside0.mk (below_step (w := w) bW hb); have n2_ := Aside0.mk (hbox); have n3_ := Aside0.mk (gS (w := w) hg); have n4_ := n3_; have n5_ := Aside0.mk (nL BK324 hg); have n6_ := Aside0.mk (nG BK324 hg); clear BK324; clear HB; have BK324 := n0_; have HB := n1_; have BK325 := n2_; have GW325 := n3_; have GE325 := n4_; have NB324_325 := n5_; have NB325_324 := n6_; clear n0_ n1_ n2_ n3_ n4_ n5_ n6_; clear hb hbox hg; have hnb8 := NB324_325.out; have hnc8 := NB325_324.out; obtain ⟨hcz9_0, hcz9_1, hcz9_2⟩ := cz3 BK324; obtain ⟨hfz9_0, hfz9_1, hfz9_2⟩ := fz3 BK324; obtain ⟨hcz10_0, hcz10_1, hcz10_2⟩ := cz3 BK325; obtain ⟨hfz10_0, hfz10_1, hfz10_2⟩ := fz3 BK325))
        go_ret
        exact ⟨rE, bW⟩
      · rw [if_neg c5] at H
        have c5b0 : (a0_2 != a1_2) = false := by simpa using c5
        (try (have c5b1 : decide (a0_2 = a1_2) = true := by simpa using c5))
        (try (have c5b2 : (a0_2 == a1_2) = true := by simpa using c5))
        clear c5
        obtain rfl := Option.some.inj H
        go_enter Tryz.func35, Tryz.ntmps35
        go_wp2_with (first | ((with_reducible refine gate_dst (N := 2) rfl ?_); refine bE (N := 2) (cs := #[.string a0_0, .int .i64 a0_1, .bool a0_2]) (t := 68) ?_; intro gb324 hg w11 hbox hb; have n0_ := Aside0.mk (below_step (w := w) bW hb); have n1_ := Aside0.mk (hbox); have n2_ := Aside0.mk (gS (w := w) hg); have n3_ := n2_; clear HB; have HB := n0_; have BK324 := n1_; have GW324 := n2_; have GE324 := n3_; clear n0_ n1_ n2_ n3_; clear hb hbox hg) | ((with_reducible refine gate_dst (N := 3) rfl ?_); refine bE (N := 3) (cs := #[.string a1_0, .int .i64 a1_1, .bool a1_2]) (t := 68) ?_; intro gb325 hg w12 hbox hb; have n0_ := Aside0.mk (kb BK324 hb); have n1_ := Aside0.mk (below_step (w := w) bW hb); have n2_ := Aside0.mk (hbox); have n3_ := Aside0.mk (gS (w := w) hg); have n4_ := n3_; have n5_ := Aside0.mk (nL BK324 hg); have n6_ := Aside0.mk (nG BK324 hg); clear BK324; clear HB; have BK324 := n0_; have HB := n1_; have BK325 := n2_; have GW325 := n3_; have GE325 := n4_; have NB324_325 := n5_; have NB325_324 := n6_; clear n0_ n1_ n2_ n3_ n4_ n5_ n6_; clear hb hbox hg; have hnb13 := NB324_325.out; have hnc13 := NB325_324.out; obtain ⟨hcz14_0, hcz14_1, hcz14_2⟩ := cz3 BK324; obtain ⟨hfz14_0, hfz14_1, hfz14_2⟩ := fz3 BK324; obtain ⟨hcz15_0, hcz15_1, hcz15_2⟩ := cz3 BK325; obtain ⟨hfz15_0, hfz15_1, hfz15_2⟩ := fz3 BK325))
        go_ret
        exact ⟨rE, bW⟩
    · rw [if_neg c4] at H
      have c4b0 : (a0_1 == a1_1) = false := beq_eq_false_iff_ne.mpr c4
      have c4b1 : (a0_1 != a1_1) = true := bne_iff_ne.mpr c4
      obtain rfl := Option.some.inj H
      go_enter Tryz.func35, Tryz.ntmps35
      go_wp2_with (first | ((with_reducible refine gate_dst (N := 2) rfl ?_); refine bE (N := 2) (cs := #[.string a0_0, .int .i64 a0_1, .bool a0_2]) (t := 68) ?_; intro gb324 hg w16 hbox hb; have n0_ := Aside0.mk (below_step (w := w) bW hb); have n1_ := Aside0.mk (hbox); have n2_ := Aside0.mk (gS (w := w) hg); have n3_ := n2_; clear HB; have HB := n0_; have BK324 := n1_; have GW324 := n2_; have GE324 := n3_; clear n0_ n1_ n2_ n3_; clear hb hbox hg) | ((with_reducible refine gate_dst (N := 3) rfl ?_); refine bE (N := 3) (cs := #[.string a1_0, .int .i64 a1_1, .bool a1_2]) (t := 68) ?_; intro gb325 hg w17 hbox hb; have n0_ := Aside0.mk (kb BK324 hb); have n1_ := Aside0.mk (below_step (w := w) bW hb); have n2_ := Aside0.mk (hbox); have n3_ := Aside0.mk (gS (w := w) hg); have n4_ := n3_; have n5_ := Aside0.mk (nL BK324 hg); have n6_ := Aside0.mk (nG BK324 hg); clear BK324; clear HB; have BK324 := n0_; have HB := n1_; have BK325 := n2_; have GW325 := n3_; have GE325 := n4_; have NB324_325 := n5_; have NB325_324 := n6_; clear n0_ n1_ n2_ n3_ n4_ n5_ n6_; clear hb hbox hg; have hnb18 := NB324_325.out; have hnc18 := NB325_324.out; obtain ⟨hcz19_0, hcz19_1, hcz19_2⟩ := cz3 BK324; obtain ⟨hfz19_0, hfz19_1, hfz19_2⟩ := fz3 BK324; obtain ⟨hcz20_0, hcz20_1, hcz20_2⟩ := cz3 BK325; obtain ⟨hfz20_0, hfz20_1, hfz20_2⟩ := fz3 BK325))
      go_ret
      exact ⟨rE, bW⟩
  · rw [if_neg c3] at H
    have c3b0 : (a0_0.toList == a1_0.toList) = false := beq_eq_false_iff_ne.mpr c3
    have c3b1 : (a0_0.toList != a1_0.toList) = true := bne_iff_ne.mpr c3
    obtain rfl := Option.some.inj H
    go_enter Tryz.func35, Tryz.ntmps35
    go_wp2_with (first | ((with_reducible refine gate_dst (N := 2) rfl ?_); refine bE (N := 2) (cs := #[.string a0_0, .int .i64 a0_1, .bool a0_2]) (t := 68) ?_; intro gb324 hg w21 hbox hb; have n0_ := Aside0.mk (below_step (w := w) bW hb); have n1_ := Aside0.mk (hbox); have n2_ := Aside0.mk (gS (w := w) hg); have n3_ := n2_; clear HB; have HB := n0_; have BK324 := n1_; have GW324 := n2_; have GE324 := n3_; clear n0_ n1_ n2_ n3_; clear hb hbox hg) | ((with_reducible refine gate_dst (N := 3) rfl ?_); refine bE (N := 3) (cs := #[.string a1_0, .int .i64 a1_1, .bool a1_2]) (t := 68) ?_; intro gb325 hg w22 hbox hb; have n0_ := Aside0.mk (kb BK324 hb); have n1_ := Aside0.mk (below_step (w := w) bW hb); have n2_ := Aside0.mk (hbox); have n3_ := Aside0.mk (gS (w := w) hg); have n4_ := n3_; have n5_ := Aside0.mk (nL BK324 hg); have n6_ := Aside0.mk (nG BK324 hg); clear BK324; clear HB; have BK324 := n0_; have HB := n1_; have BK325 := n2_; have GW325 := n3_; have GE325 := n4_; have NB324_325 := n5_; have NB325_324 := n6_; clear n0_ n1_ n2_ n3_ n4_ n5_ n6_; clear hb hbox hg; have hnb23 := NB324_325.out; have hnc23 := NB325_324.out; obtain ⟨hcz24_0, hcz24_1, hcz24_2⟩ := cz3 BK324; obtain ⟨hfz24_0, hfz24_1, hfz24_2⟩ := fz3 BK324; obtain ⟨hcz25_0, hcz25_1, hcz25_2⟩ := cz3 BK325; obtain ⟨hfz25_0, hfz25_1, hfz25_2⟩ := fz3 BK325))
    go_ret
    exact ⟨rE, bW⟩
end Go.Proofs.YtblejbgkcgajgaaGreat.Q
end

section
namespace Go.Proofs.YtblejbgkcgajgaaGreat.Q
open Go.RowKit Go.Proofs.YtblejbgkcgajgaaGreatW.PrintWords Go.Proofs.YtblejbgkcgajgaaGreatW.PrintLast Go.Proofs.YtblejbgkcgajgaaGreatW.PrintMore
attribute [local go_sem] max2_int min2_int max_two min_two max_three min_three max_four min_four   -- for this text's walks alone
set_option linter.unusedVariables false
set_option linter.unusedSimpArgs false
attribute [local go_sem] bin_leq bin_gtr bin_geq
def laws_eqEditS.l0 : Nat → List (S68) → List (S68) → Int → Option (Bool)
 | 0, _, _, _ => none
 | k + 1, x0, x1, x5 => if x5 < (x0.length : Int) then (if 0 ≤ x5 then (if x5 < (x1.length : Int) then ((laws_eqEdit.f ((rd_T68 x0 x5).f0) ((rd_T68 x0 x5).f1) ((rd_T68 x0 x5).f2) ((rd_T68 x1 x5).f0) ((rd_T68 x1 x5).f1) ((rd_T68 x1 x5).f2)).bind fun t328 => (if t328 = true then (laws_eqEditS.l0 k x0 x1 (wrap64 (x5 + 1))) else (some false))) else (none)) else (none)) else (some true)
def laws_eqEditS.f (k : Nat) (l0 : List (S68)) (l1 : List (S68)) : Option (Bool) := if (l0.length : Int) = (l1.length : Int) then (laws_eqEditS.l0 k l0 l1 0) else (some false)
def laws_eqEditS.T6 : Bool × List (List Nat × List Nat) := (true, [([], []), ([], []), ([0, 1], [0, 1]), ([2], [2]), ([], []), ([], []), ([4, 5], [4, 5]), ([6], [6]), ([3, 7], [3, 7]), ([8], [8])])
def laws_eqEditS.B6 : List Nat := [0, 0, 3, 7, 0, 0, 48, 112, 255, 511]
theorem laws_eqEditS.tab6 : rtab .any (opsOf Tryz.f11 6) = laws_eqEditS.T6 := by kernel_rfl
theorem laws_eqEditS.bits6 : waitsOk laws_eqEditS.T6.2 laws_eqEditS.B6 = true := by kernel_rfl
set_option maxHeartbeats 8000000 in
set_option maxRecDepth 100000 in
theorem laws_eqEditS.calls (k : Nat) (A0 : Option Addr) (c0 : Nat) (l0 : List (S68)) (A1 : Option Addr) (c1 : Nat) (l1 : List (S68)) (r : Bool) (w : World) (hr0 : Kd.C k68 w A0 l0.length l0) (hc0 : l0.length ≤ c0) (hr1 : Kd.C k68 w A1 l1.length l1) (hc1 : l1.length ≤ c1) (h : laws_eqEditS.f k l0 l1 = some r) :
  Calls Tryz.prog 11 #[.slice A0 l0.length c0, .slice A1 l1.length c1] w fun e w' => e = .returned (.bool r) ∧ Below w.heap.size w w' := by
 have hu68 := Tryz.underlying68
 have HR0 := Aside0.mk hr0
 have HC0 := Aside0.mk hc0
 clear hr0 hc0
 have HR1 := Aside0.mk hr1
 have HC1 := Aside0.mk hc1
 clear hr1 hc1
 have HB := Aside0.mk (Below.refl w.heap.size w)
 have H : (if (l0.length : Int) = (l1.length : Int) then (laws_eqEditS.l0 k l0 l1 0) else (some false)) = some r := h
 clear h
 by_cases c3 : (l0.length : Int) = (l1.length : Int)
 ·rw [if_pos c3] at H
  have c3b0 : ((l0.length : Int) == (l1.length : Int)) = true := beq_iff_eq.mpr c3
  have c3b1 : ((l0.length : Int) != (l1.length : Int)) = false := bne_eq_false_iff_eq.mpr c3
  have c3b2 : (l0.length == l1.length) = true := by first | simpa using c3 | (simp at c3 ⊢; omega)
  clear c3
  have H' := Aside0.mk H
  clear H
  go_enter Tryz.func11, Tryz.ntmps11
  go_wp2
  go_loopg [5] k (fun kq v5 w' => ∃ (x5_1 : Int), v5 = .int .i64 x5_1 ∧ Aside0 (laws_eqEditS.l0 kq l0 l1 x5_1 = some r) ∧ Aside0 (kq ≤ k) ∧ Aside0 (Below w.heap.size w w'))
  case atStart => exact ⟨(0), vE, H', ⟨Nat.le_refl _⟩, ⟨bW⟩⟩
  case round =>
   clear H'
   try clear c1
   try clear p2
   try clear c3
   try clear c3b0
   try clear c3b1
   try clear c3b2
   obtain ⟨x5_1, rfl, HA, HK1, HB⟩ := hrel
   cases gk with
   | zero => exact absurd HA.out (by simp [laws_eqEditS.l0])
   | succ k1 =>
    have H := HA.out
    clear HA
    simp only [laws_eqEditS.l0] at H
    by_cases c4 : x5_1 < (l0.length : Int)
    ·rw [if_pos c4] at H
     have c4b0 : decide (x5_1 < (l0.length : Int)) = true := decide_eq_true c4
     clear c4
     by_cases c5 : 0 ≤ x5_1
     ·rw [if_pos c5] at H
      have c5b0 : decide (0 ≤ x5_1) = true := decide_eq_true c5
      clear c5
      by_cases c6 : x5_1 < (l1.length : Int)
      ·rw [if_pos c6] at H
       have c6b0 : decide (x5_1 < (l1.length : Int)) = true := decide_eq_true c6
       clear c6
       replace H := Option.bind_eq_some_iff.mp H
       obtain ⟨t328, A70, H⟩ := H
       replace H : (if t328 = true then (laws_eqEditS.l0 k1 l0 l1 (wrap64 (x5_1 + 1))) else (some false)) = some r := H
       have A7 := Aside0.mk A70
       clear A70
       by_cases c8 : t328 = true
       ·subst c8
        have H1 : (laws_eqEditS.l0 k1 l0 l1 (wrap64 (x5_1 + 1))) = some r := by rw [if_pos rfl] at H; exact H
        clear H
        have H := H1
        clear H1
        have H' := Aside0.mk H
        clear H
        try go_wp2
        have n0_ := Aside0.mk (below_drew1 HB.out)
        clear HB
        have HB := n0_
        clear n0_
        have p326 : 0 ≤ (x5_1 : Int) := odt
        have q326 : x5_1 < (l0.length : Int) := odt
        obtain ⟨ad326, e326, hx326_0, hx326_1, hx326_2⟩ := at_T68 HR0.out x5_1 p326 q326
        have hw326_2 := hx326_2
        have hw326_1 := hx326_1
        have hw326_0 := hx326_0
        cases e326
        replace hx326_0 := (HB.out.cell (World.block_lt_of_cell? w _ hx326_0)).trans hx326_0
        replace hx326_1 := (HB.out.cell (World.block_lt_of_cell? w _ hx326_1)).trans hx326_1
        replace hx326_2 := (HB.out.cell (World.block_lt_of_cell? w _ hx326_2)).trans hx326_2
        replace p326 := eq_true p326
        replace q326 := eq_true q326
        have p327 : 0 ≤ (x5_1 : Int) := odt
        have q327 : x5_1 < (l1.length : Int) := odt
        obtain ⟨ad327, e327, hx327_0, hx327_1, hx327_2⟩ := at_T68 HR1.out x5_1 p327 q327
        have hw327_2 := hx327_2
        have hw327_1 := hx327_1
        have hw327_0 := hx327_0
        cases e327
        replace hx327_0 := (HB.out.cell (World.block_lt_of_cell? w _ hx327_0)).trans hx327_0
        replace hx327_1 := (HB.out.cell (World.block_lt_of_cell? w _ hx327_1)).trans hx327_1
        replace hx327_2 := (HB.out.cell (World.block_lt_of_cell? w _ hx327_2)).trans hx327_2
        replace p327 := eq_true p327
        replace q327 := eq_true q327
        refine start_ (n := 10) (S := fun w' => w'.cell? (ad326.add ((x5_1).toNat * 3)) = some (.string ((rd_T68 l0 x5_1).f0)) ∧ w'.cell? ⟨(ad326.add ((x5_1).toNat * 3)).block, (ad326.add ((x5_1).toNat * 3)).off + 1, none⟩ = some (.int .i64 ((rd_T68 l0 x5_1).f1)) ∧ w'.cell? ⟨(ad326.add ((x5_1).toNat * 3)).block, (ad326.add ((x5_1).toNat * 3)).off + 2, none⟩ = some (.bool ((rd_T68 l0 x5_1).f2)) ∧ w'.cell? (ad327.add ((x5_1).toNat * 3)) = some (.string ((rd_T68 l1 x5_1).f0)) ∧ w'.cell? ⟨(ad327.add ((x5_1).toNat * 3)).block, (ad327.add ((x5_1).toNat * 3)).off + 1, none⟩ = some (.int .i64 ((rd_T68 l1 x5_1).f1)) ∧ w'.cell? ⟨(ad327.add ((x5_1).toNat * 3)).block, (ad327.add ((x5_1).toNat * 3)).off + 2, none⟩ = some (.bool ((rd_T68 l1 x5_1).f2))) (ds := []) #[false, false, false, false, false, false, false, false, false, false] (by kernel_rfl) rfl rfl ⟨((HB.out.cell (World.block_lt_of_cell? w _ hw326_0)).trans hw326_0), ((HB.out.cell (World.block_lt_of_cell? w _ hw326_1)).trans hw326_1), ((HB.out.cell (World.block_lt_of_cell? w _ hw326_2)).trans hw326_2), ((HB.out.cell (World.block_lt_of_cell? w _ hw327_0)).trans hw327_0), ((HB.out.cell (World.block_lt_of_cell? w _ hw327_1)).trans hw327_1), ((HB.out.cell (World.block_lt_of_cell? w _ hw327_2)).trans hw327_2)⟩ (fun hHeld => ?_); refine with_tabW laws_eqEditS.tab6 laws_eqEditS.bits6 (fun HT_ HW_ => ?_)
        generalize wr.drew = w9 at HB hx326_0 hx326_1 hx326_2 hx327_0 hx327_1 hx327_2 hHeld ⊢
        refine pure_ (i := 0) (N := some 17) (v := ?_) (a' := ?_) #[true, false, false, false, false, false, false, false, false, false] rfl rfl (any_of HT_.out (by kernel_rfl)) (fun _ _ _ h => h) (Or.inl ⟨by rfl, ?_⟩) ?_ ?_
        rotate_left
        ·intro w'
         go_simp
         with_reducible rfl
        rotate_left
        ·simp only [Act.put, List.setIfInBounds_toArray, List.set_cons_zero, List.set_cons_succ, i64_w, i32_w]
         rfl
        refine pure_ (i := 1) (N := some 18) (v := ?_) (a' := ?_) #[true, true, false, false, false, false, false, false, false, false] rfl rfl (any_of HT_.out (by kernel_rfl)) (fun _ _ _ h => h) (Or.inl ⟨by rfl, ?_⟩) ?_ ?_
        rotate_left
        ·intro w'
         go_simp
         with_reducible rfl
        rotate_left
        ·simp only [Act.put, List.setIfInBounds_toArray, List.set_cons_zero, List.set_cons_succ, i64_w, i32_w]
         rfl
        refine pure_ (i := 2) (N := some 19) (v := ?_) (a' := ?_) #[true, true, true, false, false, false, false, false, false, false] rfl rfl (any_of HT_.out (by kernel_rfl)) (fun _ _ _ h => h) (Or.inl ⟨by rfl, ?_⟩) ?_ ?_
        rotate_left
        ·intro w'
         go_simp
         with_reducible rfl
        rotate_left
        ·simp only [Act.put, List.setIfInBounds_toArray, List.set_cons_zero, List.set_cons_succ, i64_w, i32_w]
         rfl
        refine pure_ (i := 4) (N := some 21) (v := ?_) (a' := ?_) #[true, true, true, false, true, false, false, false, false, false] rfl rfl (any_of HT_.out (by kernel_rfl)) (fun _ _ _ h => h) (Or.inl ⟨by rfl, ?_⟩) ?_ ?_
        rotate_left
        ·intro w'
         go_simp
         with_reducible rfl
        rotate_left
        ·simp only [Act.put, List.setIfInBounds_toArray, List.set_cons_zero, List.set_cons_succ, i64_w, i32_w]
         rfl
        refine pure_ (i := 5) (N := some 22) (v := ?_) (a' := ?_) #[true, true, true, false, true, true, false, false, false, false] rfl rfl (any_of HT_.out (by kernel_rfl)) (fun _ _ _ h => h) (Or.inl ⟨by rfl, ?_⟩) ?_ ?_
        rotate_left
        ·intro w'
         go_simp
         with_reducible rfl
        rotate_left
        ·simp only [Act.put, List.setIfInBounds_toArray, List.set_cons_zero, List.set_cons_succ, i64_w, i32_w]
         rfl
        refine pure_ (i := 6) (N := some 23) (v := ?_) (a' := ?_) #[true, true, true, false, true, true, true, false, false, false] rfl rfl (any_of HT_.out (by kernel_rfl)) (fun _ _ _ h => h) (Or.inl ⟨by rfl, ?_⟩) ?_ ?_
        rotate_left
        ·intro w'
         go_simp
         with_reducible rfl
        rotate_left
        ·simp only [Act.put, List.setIfInBounds_toArray, List.set_cons_zero, List.set_cons_succ, i64_w, i32_w]
         rfl
        refine take_ (i := 3) (N := some 20) (v := ?_) (a' := ?_) #[true, true, true, true, true, true, true, false, false, false] rfl rfl (take_ofW HT_.out HW_.out (by kernel_rfl)) (fun _ _ _ h => h) (Or.inl ⟨by rfl, ?_⟩) hHeld ?_ ?_
        rotate_left
        ·rintro w' ⟨s0, s1, s2, s3, s4, s5⟩
         go_simp
         with_reducible rfl
        rotate_left
        ·simp only [Act.put, List.setIfInBounds_toArray, List.set_cons_zero, List.set_cons_succ, i64_w, i32_w]
         rfl
        refine take_ (i := 7) (N := some 24) (v := ?_) (a' := ?_) #[true, true, true, true, true, true, true, true, false, false] rfl rfl (take_ofW HT_.out HW_.out (by kernel_rfl)) (fun _ _ _ h => h) (Or.inl ⟨by rfl, ?_⟩) hHeld ?_ ?_
        rotate_left
        ·rintro w' ⟨s0, s1, s2, s3, s4, s5⟩
         go_simp
         with_reducible rfl
        rotate_left
        ·simp only [Act.put, List.setIfInBounds_toArray, List.set_cons_zero, List.set_cons_succ, i64_w, i32_w]
         rfl
        refine one_ (i := 8) (N := some 25) #[true, true, true, true, true, true, true, true, true, false] rfl rfl (one_of HT_.out (by kernel_rfl)) (by decide) (fun K hK => ?_)
        refine goes_ Tryz.func35 (by kernel_rfl) rfl #[.agg #[.string ((rd_T68 l0 x5_1).f0), .int .i64 ((rd_T68 l0 x5_1).f1), .bool ((rd_T68 l0 x5_1).f2)], .agg #[.string ((rd_T68 l1 x5_1).f0), .int .i64 ((rd_T68 l1 x5_1).f1), .bool ((rd_T68 l1 x5_1).f2)]] (by rfl) rfl rfl gA ?_
        with_reducible refine (laws_eqEdit.calls ((rd_T68 l0 x5_1).f0) ((rd_T68 l0 x5_1).f1) ((rd_T68 l0 x5_1).f2) ((rd_T68 l1 x5_1).f0) ((rd_T68 l1 x5_1).f1) ((rd_T68 l1 x5_1).f2) true _ A7.out).mono ?_
        rintro e w10 ⟨rfl, hb⟩
        refine ⟨_, rfl, ?_⟩
        have n0_ := Aside0.mk (below_step (w := w) bW hb)
        clear HB
        have HB := n0_
        clear n0_
        (try clear hb)
        (try clear hb2)
        (try clear hk)
        (try clear hi)
        refine hK.out _ _ ⟨((HB.out.cell (World.block_lt_of_cell? w _ hw326_0)).trans hw326_0), ((HB.out.cell (World.block_lt_of_cell? w _ hw326_1)).trans hw326_1), ((HB.out.cell (World.block_lt_of_cell? w _ hw326_2)).trans hw326_2), ((HB.out.cell (World.block_lt_of_cell? w _ hw327_0)).trans hw327_0), ((HB.out.cell (World.block_lt_of_cell? w _ hw327_1)).trans hw327_1), ((HB.out.cell (World.block_lt_of_cell? w _ hw327_2)).trans hw327_2)⟩ (fun hHeld => ?_)
        clear hK K
        refine norm_ (a' := ?_) ?_ ?_
        rotate_left
        ·show Act.put _ (some 25) _ = _
         simp only [Act.put, List.setIfInBounds_toArray, List.set_cons_zero, List.set_cons_succ, i64_w, i32_w]
         rfl
        refine pure_ (i := 9) (N := some 26) (v := ?_) (a' := ?_) #[true, true, true, true, true, true, true, true, true, true] rfl rfl (any_of HT_.out (by kernel_rfl)) (fun _ _ _ h => h) (Or.inl ⟨by rfl, ?_⟩) ?_ ?_
        rotate_left
        ·intro w'
         go_simp
         with_reducible rfl
        rotate_left
        ·simp only [Act.put, List.setIfInBounds_toArray, List.set_cons_zero, List.set_cons_succ, i64_w, i32_w]
         rfl
        refine done_ (done_of HT_.out (by kernel_rfl)) ?_
        try go_wp2
        go_roundg k1
        case measure => have := HK1.out; omega
        case rel => exact ⟨(wrap64 (x5_1 + 1)), vE, H', ⟨by have := HK1.out; omega⟩, ⟨bW⟩⟩
       ·replace c8 := Bool.eq_false_iff.mpr c8
        subst c8
        have H1 : (some false) = some r := by rw [if_neg (show ¬ (false = true) by decide)] at H; exact H
        clear H
        have H := H1
        clear H1
        obtain rfl := Option.some.inj H
        try go_wp2
        have n0_ := Aside0.mk (below_drew1 HB.out)
        clear HB
        have HB := n0_
        clear n0_
        have p326 : 0 ≤ (x5_1 : Int) := odt
        have q326 : x5_1 < (l0.length : Int) := odt
        obtain ⟨ad326, e326, hx326_0, hx326_1, hx326_2⟩ := at_T68 HR0.out x5_1 p326 q326
        have hw326_2 := hx326_2
        have hw326_1 := hx326_1
        have hw326_0 := hx326_0
        cases e326
        replace hx326_0 := (HB.out.cell (World.block_lt_of_cell? w _ hx326_0)).trans hx326_0
        replace hx326_1 := (HB.out.cell (World.block_lt_of_cell? w _ hx326_1)).trans hx326_1
        replace hx326_2 := (HB.out.cell (World.block_lt_of_cell? w _ hx326_2)).trans hx326_2
        replace p326 := eq_true p326
        replace q326 := eq_true q326
        have p327 : 0 ≤ (x5_1 : Int) := odt
        have q327 : x5_1 < (l1.length : Int) := odt
        obtain ⟨ad327, e327, hx327_0, hx327_1, hx327_2⟩ := at_T68 HR1.out x5_1 p327 q327
        have hw327_2 := hx327_2
        have hw327_1 := hx327_1
        have hw327_0 := hx327_0
        cases e327
        replace hx327_0 := (HB.out.cell (World.block_lt_of_cell? w _ hx327_0)).trans hx327_0
        replace hx327_1 := (HB.out.cell (World.block_lt_of_cell? w _ hx327_1)).trans hx327_1
        replace hx327_2 := (HB.out.cell (World.block_lt_of_cell? w _ hx327_2)).trans hx327_2
        replace p327 := eq_true p327
        replace q327 := eq_true q327
        refine start_ (n := 10) (S := fun w' => w'.cell? (ad326.add ((x5_1).toNat * 3)) = some (.string ((rd_T68 l0 x5_1).f0)) ∧ w'.cell? ⟨(ad326.add ((x5_1).toNat * 3)).block, (ad326.add ((x5_1).toNat * 3)).off + 1, none⟩ = some (.int .i64 ((rd_T68 l0 x5_1).f1)) ∧ w'.cell? ⟨(ad326.add ((x5_1).toNat * 3)).block, (ad326.add ((x5_1).toNat * 3)).off + 2, none⟩ = some (.bool ((rd_T68 l0 x5_1).f2)) ∧ w'.cell? (ad327.add ((x5_1).toNat * 3)) = some (.string ((rd_T68 l1 x5_1).f0)) ∧ w'.cell? ⟨(ad327.add ((x5_1).toNat * 3)).block, (ad327.add ((x5_1).toNat * 3)).off + 1, none⟩ = some (.int .i64 ((rd_T68 l1 x5_1).f1)) ∧ w'.cell? ⟨(ad327.add ((x5_1).toNat * 3)).block, (ad327.add ((x5_1).toNat * 3)).off + 2, none⟩ = some (.bool ((rd_T68 l1 x5_1).f2))) (ds := []) #[false, false, false, false, false, false, false, false, false, false] (by kernel_rfl) rfl rfl ⟨((HB.out.cell (World.block_lt_of_cell? w _ hw326_0)).trans hw326_0), ((HB.out.cell (World.block_lt_of_cell? w _ hw326_1)).trans hw326_1), ((HB.out.cell (World.block_lt_of_cell? w _ hw326_2)).trans hw326_2), ((HB.out.cell (World.block_lt_of_cell? w _ hw327_0)).trans hw327_0), ((HB.out.cell (World.block_lt_of_cell? w _ hw327_1)).trans hw327_1), ((HB.out.cell (World.block_lt_of_cell? w _ hw327_2)).trans hw327_2)⟩ (fun hHeld => ?_); refine with_tabW laws_eqEditS.tab6 laws_eqEditS.bits6 (fun HT_ HW_ => ?_)
        generalize wr.drew = w11 at HB hx326_0 hx326_1 hx326_2 hx327_0 hx327_1 hx327_2 hHeld ⊢
        refine pure_ (i := 0) (N := some 17) (v := ?_) (a' := ?_) #[true, false, false, false, false, false, false, false, false, false] rfl rfl (any_of HT_.out (by kernel_rfl)) (fun _ _ _ h => h) (Or.inl ⟨by rfl, ?_⟩) ?_ ?_
        rotate_left
        ·intro w'
         go_simp
         with_reducible rfl
        rotate_left
        ·simp only [Act.put, List.setIfInBounds_toArray, List.set_cons_zero, List.set_cons_succ, i64_w, i32_w]
         rfl
        refine pure_ (i := 1) (N := some 18) (v := ?_) (a' := ?_) #[true, true, false, false, false, false, false, false, false, false] rfl rfl (any_of HT_.out (by kernel_rfl)) (fun _ _ _ h => h) (Or.inl ⟨by rfl, ?_⟩) ?_ ?_
        rotate_left
        ·intro w'
         go_simp
         with_reducible rfl
        rotate_left
        ·simp only [Act.put, List.setIfInBounds_toArray, List.set_cons_zero, List.set_cons_succ, i64_w, i32_w]
         rfl
        refine pure_ (i := 2) (N := some 19) (v := ?_) (a' := ?_) #[true, true, true, false, false, false, false, false, false, false] rfl rfl (any_of HT_.out (by kernel_rfl)) (fun _ _ _ h => h) (Or.inl ⟨by rfl, ?_⟩) ?_ ?_
        rotate_left
        ·intro w'
         go_simp
         with_reducible rfl
        rotate_left
        ·simp only [Act.put, List.setIfInBounds_toArray, List.set_cons_zero, List.set_cons_succ, i64_w, i32_w]
         rfl
        refine pure_ (i := 4) (N := some 21) (v := ?_) (a' := ?_) #[true, true, true, false, true, false, false, false, false, false] rfl rfl (any_of HT_.out (by kernel_rfl)) (fun _ _ _ h => h) (Or.inl ⟨by rfl, ?_⟩) ?_ ?_
        rotate_left
        ·intro w'
         go_simp
         with_reducible rfl
        rotate_left
        ·simp only [Act.put, List.setIfInBounds_toArray, List.set_cons_zero, List.set_cons_succ, i64_w, i32_w]
         rfl
        refine pure_ (i := 5) (N := some 22) (v := ?_) (a' := ?_) #[true, true, true, false, true, true, false, false, false, false] rfl rfl (any_of HT_.out (by kernel_rfl)) (fun _ _ _ h => h) (Or.inl ⟨by rfl, ?_⟩) ?_ ?_
        rotate_left
        ·intro w'
         go_simp
         with_reducible rfl
        rotate_left
        ·simp only [Act.put, List.setIfInBounds_toArray, List.set_cons_zero, List.set_cons_succ, i64_w, i32_w]
         rfl
        refine pure_ (i := 6) (N := some 23) (v := ?_) (a' := ?_) #[true, true, true, false, true, true, true, false, false, false] rfl rfl (any_of HT_.out (by kernel_rfl)) (fun _ _ _ h => h) (Or.inl ⟨by rfl, ?_⟩) ?_ ?_
        rotate_left
        ·intro w'
         go_simp
         with_reducible rfl
        rotate_left
        ·simp only [Act.put, List.setIfInBounds_toArray, List.set_cons_zero, List.set_cons_succ, i64_w, i32_w]
         rfl
        refine take_ (i := 3) (N := some 20) (v := ?_) (a' := ?_) #[true, true, true, true, true, true, true, false, false, false] rfl rfl (take_ofW HT_.out HW_.out (by kernel_rfl)) (fun _ _ _ h => h) (Or.inl ⟨by rfl, ?_⟩) hHeld ?_ ?_
        rotate_left
        ·rintro w' ⟨s0, s1, s2, s3, s4, s5⟩
         go_simp
         with_reducible rfl
        rotate_left
        ·simp only [Act.put, List.setIfInBounds_toArray, List.set_cons_zero, List.set_cons_succ, i64_w, i32_w]
         rfl
        refine take_ (i := 7) (N := some 24) (v := ?_) (a' := ?_) #[true, true, true, true, true, true, true, true, false, false] rfl rfl (take_ofW HT_.out HW_.out (by kernel_rfl)) (fun _ _ _ h => h) (Or.inl ⟨by rfl, ?_⟩) hHeld ?_ ?_
        rotate_left
        ·rintro w' ⟨s0, s1, s2, s3, s4, s5⟩
         go_simp
         with_reducible rfl
        rotate_left
        ·simp only [Act.put, List.setIfInBounds_toArray, List.set_cons_zero, List.set_cons_succ, i64_w, i32_w]
         rfl
        refine one_ (i := 8) (N := some 25) #[true, true, true, true, true, true, true, true, true, false] rfl rfl (one_of HT_.out (by kernel_rfl)) (by decide) (fun K hK => ?_)
        refine goes_ Tryz.func35 (by kernel_rfl) rfl #[.agg #[.string ((rd_T68 l0 x5_1).f0), .int .i64 ((rd_T68 l0 x5_1).f1), .bool ((rd_T68 l0 x5_1).f2)], .agg #[.string ((rd_T68 l1 x5_1).f0), .int .i64 ((rd_T68 l1 x5_1).f1), .bool ((rd_T68 l1 x5_1).f2)]] (by rfl) rfl rfl gA ?_
        with_reducible refine (laws_eqEdit.calls ((rd_T68 l0 x5_1).f0) ((rd_T68 l0 x5_1).f1) ((rd_T68 l0 x5_1).f2) ((rd_T68 l1 x5_1).f0) ((rd_T68 l1 x5_1).f1) ((rd_T68 l1 x5_1).f2) false _ A7.out).mono ?_
        rintro e w12 ⟨rfl, hb⟩
        refine ⟨_, rfl, ?_⟩
        have n0_ := Aside0.mk (below_step (w := w) bW hb)
        clear HB
        have HB := n0_
        clear n0_
        (try clear hb)
        (try clear hb2)
        (try clear hk)
        (try clear hi)
        refine hK.out _ _ ⟨((HB.out.cell (World.block_lt_of_cell? w _ hw326_0)).trans hw326_0), ((HB.out.cell (World.block_lt_of_cell? w _ hw326_1)).trans hw326_1), ((HB.out.cell (World.block_lt_of_cell? w _ hw326_2)).trans hw326_2), ((HB.out.cell (World.block_lt_of_cell? w _ hw327_0)).trans hw327_0), ((HB.out.cell (World.block_lt_of_cell? w _ hw327_1)).trans hw327_1), ((HB.out.cell (World.block_lt_of_cell? w _ hw327_2)).trans hw327_2)⟩ (fun hHeld => ?_)
        clear hK K
        refine norm_ (a' := ?_) ?_ ?_
        rotate_left
        ·show Act.put _ (some 25) _ = _
         simp only [Act.put, List.setIfInBounds_toArray, List.set_cons_zero, List.set_cons_succ, i64_w, i32_w]
         rfl
        refine pure_ (i := 9) (N := some 26) (v := ?_) (a' := ?_) #[true, true, true, true, true, true, true, true, true, true] rfl rfl (any_of HT_.out (by kernel_rfl)) (fun _ _ _ h => h) (Or.inl ⟨by rfl, ?_⟩) ?_ ?_
        rotate_left
        ·intro w'
         go_simp
         with_reducible rfl
        rotate_left
        ·simp only [Act.put, List.setIfInBounds_toArray, List.set_cons_zero, List.set_cons_succ, i64_w, i32_w]
         rfl
        refine done_ (done_of HT_.out (by kernel_rfl)) ?_
        try go_wp2
        go_ret
        exact ⟨rE, bW⟩
      ·rw [if_neg c6] at H
       exact absurd H (by simp)
     ·rw [if_neg c5] at H
      exact absurd H (by simp)
    ·rw [if_neg c4] at H
     have c4b0 : decide (x5_1 < (l0.length : Int)) = false := decide_eq_false c4
     clear c4
     obtain rfl := Option.some.inj H
     go_wp2
     go_ret
     exact ⟨rE, bW⟩
 ·rw [if_neg c3] at H
  have c3b0 : ((l0.length : Int) == (l1.length : Int)) = false := beq_eq_false_iff_ne.mpr c3
  have c3b1 : ((l0.length : Int) != (l1.length : Int)) = true := bne_iff_ne.mpr c3
  have c3b2 : (l0.length == l1.length) = false := by first | simpa using c3 | (simp at c3 ⊢; omega)
  obtain rfl := Option.some.inj H
  go_enter Tryz.func11, Tryz.ntmps11
  go_wp2
  go_ret
  exact ⟨rE, bW⟩
end Go.Proofs.YtblejbgkcgajgaaGreat.Q
end

section
namespace Go.Proofs.YtblejbgkcgajgaaGreat.Q
open Go.RowKit Go.Proofs.YtblejbgkcgajgaaGreatW.PrintWords Go.Proofs.YtblejbgkcgajgaaGreatW.PrintLast Go.Proofs.YtblejbgkcgajgaaGreatW.PrintMore
attribute [local go_sem] max2_int min2_int max_two min_two max_three min_three max_four min_four   -- for this text's walks alone
set_option linter.unusedVariables false
set_option linter.unusedSimpArgs false
attribute [local go_sem] bin_leq bin_gtr bin_geq
def laws_eqEntry.f (a0_0 : ByteArray) (a0_1 : Int) (a1_0 : ByteArray) (a1_1 : Int) : Option (Bool) := if a0_0.toList = a1_0.toList then (if a0_1 = a1_1 then (some true) else (some false)) else (some false)
set_option maxHeartbeats 8000000 in
set_option maxRecDepth 100000 in
theorem laws_eqEntry.calls (a0_0 : ByteArray) (a0_1 : Int) (a1_0 : ByteArray) (a1_1 : Int) (r : Bool) (w : World) (h : laws_eqEntry.f a0_0 a0_1 a1_0 a1_1 = some r) :
    Calls Tryz.prog 47 #[.agg #[.string a0_0, .int .i64 a0_1], .agg #[.string a1_0, .int .i64 a1_1]] w fun e w' => e = .returned (.bool r) ∧ Below w.heap.size w w' := by
  have hu84 := Tryz.underlying84
  have HB := Aside0.mk (Below.refl w.heap.size w)
  have H : (if a0_0.toList = a1_0.toList then (if a0_1 = a1_1 then (some true) else (some false)) else (some false)) = some r := h
  clear h
  by_cases c3 : a0_0.toList = a1_0.toList
  · rw [if_pos c3] at H
    have c3b0 : (a0_0.toList == a1_0.toList) = true := beq_iff_eq.mpr c3
    have c3b1 : (a0_0.toList != a1_0.toList) = false := bne_eq_false_iff_eq.mpr c3
    clear c3
    by_cases c4 : a0_1 = a1_1
    · rw [if_pos c4] at H
      have c4b0 : (a0_1 == a1_1) = true := beq_iff_eq.mpr c4
      have c4b1 : (a0_1 != a1_1) = false := bne_eq_false_iff_eq.mpr c4
      clear c4
      obtain rfl := Option.some.inj H
      go_enter Tryz.func47, Tryz.ntmps47
      go_wp2_with (first | ((with_reducible refine gate_dst (N := 2) rfl ?_); refine bE (N := 2) (cs := #[.string a0_0, .int .i64 a0_1]) (t := 84) ?_; intro gb329 hg w5 hbox hb; have n0_ := Aside0.mk (below_step (w := w) bW hb); have n1_ := Aside0.mk (hbox); have n2_ := Aside0.mk (gS (w := w) hg); have n3_ := n2_; clear HB; have HB := n0_; have BK329 := n1_; have GW329 := n2_; have GE329 := n3_; clear n0_ n1_ n2_ n3_; clear hb hbox hg) | ((with_reducible refine gate_dst (N := 3) rfl ?_); refine bE (N := 3) (cs := #[.string a1_0, .int .i64 a1_1]) (t := 84) ?_; intro gb330 hg w6 hbox hb; have n0_ := Aside0.mk (kb BK329 hb); have n1_ := Aside0.mk (below_step (w := w) bW hb); have n2_ := Aside0.mk (hbox); have n3_ := Aside0.mk (gS (w := w) hg); have n4_ := n3_; have n5_ := Aside0.mk (nL BK329 hg); have n6_ := Aside0.mk (nG BK329 hg); clear BK329; clear HB; have BK329 := n0_; have HB := n1_; have BK330 := n2_; have GW330 := n3_; have GE330 := n4_; have NB329_330 := n5_; have NB330_329 := n6_; clear n0_ n1_ n2_ n3_ n4_ n5_ n6_; clear hb hbox hg; have hnb7 := NB329_330.out; have hnc7 := NB330_329.out; obtain ⟨hcz8_0, hcz8_1⟩ := cz2 BK329; obtain ⟨hfz8_0, hfz8_1⟩ := fz2 BK329; obtain ⟨hcz9_0, hcz9_1⟩ := cz2 BK330; obtain ⟨hfz9_0, hfz9_1⟩ := fz2 BK330))
      go_ret
      exact ⟨rE, bW⟩
    · rw [if_neg c4] at H
      have c4b0 : (a0_1 == a1_1) = false := beq_eq_false_iff_ne.mpr c4
      have c4b1 : (a0_1 != a1_1) = true := bne_iff_ne.mpr c4
      obtain rfl := Option.some.inj H
      go_enter Tryz.func47, Tryz.ntmps47
      go_wp2_with (first | ((with_reducible refine gate_dst (N := 2) rfl ?_); refine bE (N := 2) (cs := #[.string a0_0, .int .i64 a0_1]) (t := 84) ?_; intro gb329 hg w10 hbox hb; have n0_ := Aside0.mk (below_step (w := w) bW hb); have n1_ := Aside0.mk (hbox); have n2_ := Aside0.mk (gS (w := w) hg); have n3_ := n2_; clear HB; have HB := n0_; have BK329 := n1_; have GW329 := n2_; have GE329 := n3_; clear n0_ n1_ n2_ n3_; clear hb hbox hg) | ((with_reducible refine gate_dst (N := 3) rfl ?_); refine bE (N := 3) (cs := #[.string a1_0, .int .i64 a1_1]) (t := 84) ?_; intro gb330 hg w11 hbox hb; have n0_ := Aside0.mk (kb BK329 hb); have n1_ := Aside0.mk (below_step (w := w) bW hb); have n2_ := Aside0.mk (hbox); have n3_ := Aside0.mk (gS (w := w) hg); have n4_ := n3_; have n5_ := Aside0.mk (nL BK329 hg); have n6_ := Aside0.mk (nG BK329 hg); clear BK329; clear HB; have BK329 := n0_; have HB := n1_; have BK330 := n2_; have GW330 := n3_; have GE330 := n4_; have NB329_330 := n5_; have NB330_329 := n6_; clear n0_ n1_ n2_ n3_ n4_ n5_ n6_; clear hb hbox hg; have hnb12 := NB329_330.out; have hnc12 := NB330_329.out; obtain ⟨hcz13_0, hcz13_1⟩ := cz2 BK329; obtain ⟨hfz13_0, hfz13_1⟩ := fz2 BK329; obtain ⟨hcz14_0, hcz14_1⟩ := cz2 BK330; obtain ⟨hfz14_0, hfz14_1⟩ := fz2 BK330))
      go_ret
      exact ⟨rE, bW⟩
  · rw [if_neg c3] at H
    have c3b0 : (a0_0.toList == a1_0.toList) = false := beq_eq_false_iff_ne.mpr c3
    have c3b1 : (a0_0.toList != a1_0.toList) = true := bne_iff_ne.mpr c3
    obtain rfl := Option.some.inj H
    go_enter Tryz.func47, Tryz.ntmps47
    go_wp2_with (first | ((with_reducible refine gate_dst (N := 2) rfl ?_); refine bE (N := 2) (cs := #[.string a0_0, .int .i64 a0_1]) (t := 84) ?_; intro gb329 hg w15 hbox hb; have n0_ := Aside0.mk (below_step (w := w) bW hb); have n1_ := Aside0.mk (hbox); have n2_ := Aside0.mk (gS (w := w) hg); have n3_ := n2_; clear HB; have HB := n0_; have BK329 := n1_; have GW329 := n2_; have GE329 := n3_; clear n0_ n1_ n2_ n3_; clear hb hbox hg) | ((with_reducible refine gate_dst (N := 3) rfl ?_); refine bE (N := 3) (cs := #[.string a1_0, .int .i64 a1_1]) (t := 84) ?_; intro gb330 hg w16 hbox hb; have n0_ := Aside0.mk (kb BK329 hb); have n1_ := Aside0.mk (below_step (w := w) bW hb); have n2_ := Aside0.mk (hbox); have n3_ := Aside0.mk (gS (w := w) hg); have n4_ := n3_; have n5_ := Aside0.mk (nL BK329 hg); have n6_ := Aside0.mk (nG BK329 hg); clear BK329; clear HB; have BK329 := n0_; have HB := n1_; have BK330 := n2_; have GW330 := n3_; have GE330 := n4_; have NB329_330 := n5_; have NB330_329 := n6_; clear n0_ n1_ n2_ n3_ n4_ n5_ n6_; clear hb hbox hg; have hnb17 := NB329_330.out; have hnc17 := NB330_329.out; obtain ⟨hcz18_0, hcz18_1⟩ := cz2 BK329; obtain ⟨hfz18_0, hfz18_1⟩ := fz2 BK329; obtain ⟨hcz19_0, hcz19_1⟩ := cz2 BK330; obtain ⟨hfz19_0, hfz19_1⟩ := fz2 BK330))
    go_ret
    exact ⟨rE, bW⟩
end Go.Proofs.YtblejbgkcgajgaaGreat.Q
end

section
namespace Go.Proofs.YtblejbgkcgajgaaGreat.Q
open Go.RowKit Go.Proofs.YtblejbgkcgajgaaGreatW.PrintWords Go.Proofs.YtblejbgkcgajgaaGreatW.PrintLast Go.Proofs.YtblejbgkcgajgaaGreatW.PrintMore
attribute [local go_sem] max2_int min2_int max_two min_two max_three min_three max_four min_four   -- for this text's walks alone
set_option linter.unusedVariables false
set_option linter.unusedSimpArgs false
attribute [local go_sem] bin_leq bin_gtr bin_geq
def laws_eqEntryS.l0 : Nat → List (S84) → List (S84) → Int → Option (Bool)
  | 0, _, _, _ => none
  | k + 1, x0, x1, x5 => if x5 < (x0.length : Int) then (if 0 ≤ x5 then (if x5 < (x1.length : Int) then ((laws_eqEntry.f ((rd_T84 x0 x5).f0) ((rd_T84 x0 x5).f1) ((rd_T84 x1 x5).f0) ((rd_T84 x1 x5).f1)).bind fun t333 => (if t333 = true then (laws_eqEntryS.l0 k x0 x1 (wrap64 (x5 + 1))) else (some false))) else (none)) else (none)) else (some true)
def laws_eqEntryS.f (k : Nat) (l0 : List (S84)) (l1 : List (S84)) : Option (Bool) := if (l0.length : Int) = (l1.length : Int) then (laws_eqEntryS.l0 k l0 l1 0) else (some false)
def laws_eqEntryS.T6 : Bool × List (List Nat × List Nat) := (true, [([], []), ([], []), ([0, 1], [0, 1]), ([2], [2]), ([], []), ([], []), ([4, 5], [4, 5]), ([6], [6]), ([3, 7], [3, 7]), ([8], [8])])
def laws_eqEntryS.B6 : List Nat := [0, 0, 3, 7, 0, 0, 48, 112, 255, 511]
theorem laws_eqEntryS.tab6 : rtab .any (opsOf Tryz.f20 6) = laws_eqEntryS.T6 := by kernel_rfl
theorem laws_eqEntryS.bits6 : waitsOk laws_eqEntryS.T6.2 laws_eqEntryS.B6 = true := by kernel_rfl
set_option maxHeartbeats 8000000 in
set_option maxRecDepth 100000 in
theorem laws_eqEntryS.calls (k : Nat) (A0 : Option Addr) (c0 : Nat) (l0 : List (S84)) (A1 : Option Addr) (c1 : Nat) (l1 : List (S84)) (r : Bool) (w : World) (hr0 : Kd.C k84 w A0 l0.length l0) (hc0 : l0.length ≤ c0) (hr1 : Kd.C k84 w A1 l1.length l1) (hc1 : l1.length ≤ c1) (h : laws_eqEntryS.f k l0 l1 = some r) :
    Calls Tryz.prog 20 #[.slice A0 l0.length c0, .slice A1 l1.length c1] w fun e w' => e = .returned (.bool r) ∧ Below w.heap.size w w' := by
  have hu84 := Tryz.underlying84
  have HR0 := Aside0.mk hr0
  have HC0 := Aside0.mk hc0
  clear hr0 hc0
  have HR1 := Aside0.mk hr1
  have HC1 := Aside0.mk hc1
  clear hr1 hc1
  have HB := Aside0.mk (Below.refl w.heap.size w)
  have H : (if (l0.length : Int) = (l1.length : Int) then (laws_eqEntryS.l0 k l0 l1 0) else (some false)) = some r := h
  clear h
  by_cases c3 : (l0.length : Int) = (l1.length : Int)
  · rw [if_pos c3] at H
    have c3b0 : ((l0.length : Int) == (l1.length : Int)) = true := beq_iff_eq.mpr c3
    have c3b1 : ((l0.length : Int) != (l1.length : Int)) = false := bne_eq_false_iff_eq.mpr c3
    have c3b2 : (l0.length == l1.length) = true := by (simp at c3 ⊢; omega)
    clear c3
    have H' := Aside0.mk H
    clear H
    go_enter Tryz.func20, Tryz.ntmps20
    go_wp2
    go_loopg [5] k (fun kq v5 w' => ∃ (x5_1 : Int), v5 = .int .i64 x5_1 ∧ Aside0 (laws_eqEntryS.l0 kq l0 l1 x5_1 = some r) ∧ Aside0 (kq ≤ k) ∧ Aside0 (Below w.heap.size w w'))
    case atStart => exact ⟨(0), vE, H', ⟨Nat.le_refl _⟩, ⟨bW⟩⟩
    case round =>
      clear H'
      try clear c3b0
      try clear c3b1
      try clear c3b2
      obtain ⟨x5_1, rfl, HA, HK1, HB⟩ := hrel
      cases gk with
      | zero => exact absurd HA.out (by simp [laws_eqEntryS.l0])
      | succ k1 =>
        have H := HA.out
        clear HA
        simp only [laws_eqEntryS.l0] at H
        by_cases c4 : x5_1 < (l0.length : Int)
        · rw [if_pos c4] at H
          have c4b0 : decide (x5_1 < (l0.length : Int)) = true := decide_eq_true c4
          clear c4
          by_cases c5 : 0 ≤ x5_1
          · rw [if_pos c5] at H
            have c5b0 : decide (0 ≤ x5_1) = true := decide_eq_true c5
            clear c5
            by_cases c6 : x5_1 < (l1.length : Int)
            · rw [if_pos c6] at H
              have c6b0 : decide (x5_1 < (l1.length : Int)) = true := decide_eq_true c6
              clear c6
              replace H := Option.bind_eq_some_iff.mp H
              obtain ⟨t333, A70, H⟩ := H
              replace H : (if t333 = true then (laws_eqEntryS.l0 k1 l0 l1 (wrap64 (x5_1 + 1))) else (some false)) = some r := H
              have A7 := Aside0.mk A70
              clear A70
              by_cases c8 : t333 = true
              · subst c8
                have H1 : (laws_eqEntryS.l0 k1 l0 l1 (wrap64 (x5_1 + 1))) = some r := by rw [if_pos rfl] at H; exact H
                clear H
                have H := H1
                clear H1
                have H' := Aside0.mk H
                clear H
                try go_wp2
                have n0_ := Aside0.mk (below_drew1 HB.out)
                clear HB
                have HB := n0_
                clear n0_
                have p331 : 0 ≤ (x5_1 : Int) := odt
                have q331 : x5_1 < (l0.length : Int) := odt
                obtain ⟨ad331, e331, hx331_0, hx331_1⟩ := at_T84 HR0.out x5_1 p331 q331
                have hw331_1 := hx331_1
                have hw331_0 := hx331_0
                cases e331
                replace hx331_0 := (HB.out.cell (World.block_lt_of_cell? w _ hx331_0)).trans hx331_0
                replace hx331_1 := (HB.out.cell (World.block_lt_of_cell? w _ hx331_1)).trans hx331_1
                replace p331 := eq_true p331
                replace q331 := eq_true q331
                have p332 : 0 ≤ (x5_1 : Int) := odt
                have q332 : x5_1 < (l1.length : Int) := odt
                obtain ⟨ad332, e332, hx332_0, hx332_1⟩ := at_T84 HR1.out x5_1 p332 q332
                have hw332_1 := hx332_1
                have hw332_0 := hx332_0
                cases e332
                replace hx332_0 := (HB.out.cell (World.block_lt_of_cell? w _ hx332_0)).trans hx332_0
                replace hx332_1 := (HB.out.cell (World.block_lt_of_cell? w _ hx332_1)).trans hx332_1
                replace p332 := eq_true p332
                replace q332 := eq_true q332
                refine start_ (n := 10) (S := fun w' => w'.cell? (ad331.add ((x5_1).toNat * 2)) = some (.string ((rd_T84 l0 x5_1).f0)) ∧ w'.cell? ⟨(ad331.add ((x5_1).toNat * 2)).block, (ad331.add ((x5_1).toNat * 2)).off + 1, none⟩ = some (.int .i64 ((rd_T84 l0 x5_1).f1)) ∧ w'.cell? (ad332.add ((x5_1).toNat * 2)) = some (.string ((rd_T84 l1 x5_1).f0)) ∧ w'.cell? ⟨(ad332.add ((x5_1).toNat * 2)).block, (ad332.add ((x5_1).toNat * 2)).off + 1, none⟩ = some (.int .i64 ((rd_T84 l1 x5_1).f1))) (ds := []) (bs 10 0) (by kernel_rfl) rfl rfl ⟨((HB.out.cell (World.block_lt_of_cell? w _ hw331_0)).trans hw331_0), ((HB.out.cell (World.block_lt_of_cell? w _ hw331_1)).trans hw331_1), ((HB.out.cell (World.block_lt_of_cell? w _ hw332_0)).trans hw332_0), ((HB.out.cell (World.block_lt_of_cell? w _ hw332_1)).trans hw332_1)⟩ (fun hHeld => ?_); refine with_tabW laws_eqEntryS.tab6 laws_eqEntryS.bits6 (fun HT_ HW_ => ?_)
                generalize wr.drew = w9 at HB hx331_0 hx331_1 hx332_0 hx332_1 hHeld ⊢
                refine pz 0 17 (bs 10 1) HT_ ?_
                refine pz 1 18 (bs 10 3) HT_ ?_
                refine pz 2 19 (bs 10 7) HT_ ?_
                refine pz 4 21 (bs 10 23) HT_ ?_
                refine pz 5 22 (bs 10 55) HT_ ?_
                refine pz 6 23 (bs 10 119) HT_ ?_
                refine tz 3 20 (bs 10 127) HT_ HW_ hHeld ?_
                refine tz 7 24 (bs 10 255) HT_ HW_ hHeld ?_
                refine one_ (i := 8) (N := some 25) (bs 10 511) rfl rfl (one_of HT_.out (by kernel_rfl)) (by decide) (fun K hK => ?_)
                refine goes_ Tryz.func47 (by kernel_rfl) rfl #[.agg #[.string ((rd_T84 l0 x5_1).f0), .int .i64 ((rd_T84 l0 x5_1).f1)], .agg #[.string ((rd_T84 l1 x5_1).f0), .int .i64 ((rd_T84 l1 x5_1).f1)]] (by rfl) rfl rfl gA ?_
                with_reducible refine (laws_eqEntry.calls ((rd_T84 l0 x5_1).f0) ((rd_T84 l0 x5_1).f1) ((rd_T84 l1 x5_1).f0) ((rd_T84 l1 x5_1).f1) true _ A7.out).mono ?_
                rintro e w10 ⟨rfl, hb⟩
                refine ⟨_, rfl, ?_⟩
                have n0_ := Aside0.mk (below_step (w := w) bW hb)
                clear HB
                have HB := n0_
                clear n0_
                (try clear hb)
                refine hK.out _ _ ⟨((HB.out.cell (World.block_lt_of_cell? w _ hw331_0)).trans hw331_0), ((HB.out.cell (World.block_lt_of_cell? w _ hw331_1)).trans hw331_1), ((HB.out.cell (World.block_lt_of_cell? w _ hw332_0)).trans hw332_0), ((HB.out.cell (World.block_lt_of_cell? w _ hw332_1)).trans hw332_1)⟩ (fun hHeld => ?_)
                clear hK K
                refine norm_ (a' := ?_) ?_ ?_
                rotate_left
                · show Act.put _ (some 25) _ = _
                  simp only [Act.put, List.setIfInBounds_toArray, List.set_cons_zero, List.set_cons_succ, i64_w, i32_w]
                  rfl
                refine pz 9 26 (bs 10 1023) HT_ ?_
                refine done_ (done_of HT_.out (by kernel_rfl)) ?_
                try go_wp2
                go_roundg k1
                case measure => have := HK1.out; omega
                case rel => exact ⟨(wrap64 (x5_1 + 1)), vE, H', ⟨by have := HK1.out; omega⟩, ⟨bW⟩⟩
              · replace c8 := Bool.eq_false_iff.mpr c8
                subst c8
                have H1 : (some false) = some r := by rw [if_neg (show ¬ (false = true) by decide)] at H; exact H
                clear H
                have H := H1
                clear H1
                obtain rfl := Option.some.inj H
                try go_wp2
                have n0_ := Aside0.mk (below_drew1 HB.out)
                clear HB
                have HB := n0_
                clear n0_
                have p331 : 0 ≤ (x5_1 : Int) := odt
                have q331 : x5_1 < (l0.length : Int) := odt
                obtain ⟨ad331, e331, hx331_0, hx331_1⟩ := at_T84 HR0.out x5_1 p331 q331
                have hw331_1 := hx331_1
                have hw331_0 := hx331_0
                cases e331
                replace hx331_0 := (HB.out.cell (World.block_lt_of_cell? w _ hx331_0)).trans hx331_0
                replace hx331_1 := (HB.out.cell (World.block_lt_of_cell? w _ hx331_1)).trans hx331_1
                replace p331 := eq_true p331
                replace q331 := eq_true q331
                have p332 : 0 ≤ (x5_1 : Int) := odt
                have q332 : x5_1 < (l1.length : Int) := odt
                obtain ⟨ad332, e332, hx332_0, hx332_1⟩ := at_T84 HR1.out x5_1 p332 q332
                have hw332_1 := hx332_1
                have hw332_0 := hx332_0
                cases e332
                replace hx332_0 := (HB.out.cell (World.block_lt_of_cell? w _ hx332_0)).trans hx332_0
                replace hx332_1 := (HB.out.cell (World.block_lt_of_cell? w _ hx332_1)).trans hx332_1
                replace p332 := eq_true p332
                replace q332 := eq_true q332
                refine start_ (n := 10) (S := fun w' => w'.cell? (ad331.add ((x5_1).toNat * 2)) = some (.string ((rd_T84 l0 x5_1).f0)) ∧ w'.cell? ⟨(ad331.add ((x5_1).toNat * 2)).block, (ad331.add ((x5_1).toNat * 2)).off + 1, none⟩ = some (.int .i64 ((rd_T84 l0 x5_1).f1)) ∧ w'.cell? (ad332.add ((x5_1).toNat * 2)) = some (.string ((rd_T84 l1 x5_1).f0)) ∧ w'.cell? ⟨(ad332.add ((x5_1).toNat * 2)).block, (ad332.add ((x5_1).toNat * 2)).off + 1, none⟩ = some (.int .i64 ((rd_T84 l1 x5_1).f1))) (ds := []) (bs 10 0) (by kernel_rfl) rfl rfl ⟨((HB.out.cell (World.block_lt_of_cell? w _ hw331_0)).trans hw331_0), ((HB.out.cell (World.block_lt_of_cell? w _ hw331_1)).trans hw331_1), ((HB.out.cell (World.block_lt_of_cell? w _ hw332_0)).trans hw332_0), ((HB.out.cell (World.block_lt_of_cell? w _ hw332_1)).trans hw332_1)⟩ (fun hHeld => ?_); refine with_tabW laws_eqEntryS.tab6 laws_eqEntryS.bits6 (fun HT_ HW_ => ?_)
                generalize wr.drew = w11 at HB hx331_0 hx331_1 hx332_0 hx332_1 hHeld ⊢
                refine pz 0 17 (bs 10 1) HT_ ?_
                refine pz 1 18 (bs 10 3) HT_ ?_
                refine pz 2 19 (bs 10 7) HT_ ?_
                refine pz 4 21 (bs 10 23) HT_ ?_
                refine pz 5 22 (bs 10 55) HT_ ?_
                refine pz 6 23 (bs 10 119) HT_ ?_
                refine tz 3 20 (bs 10 127) HT_ HW_ hHeld ?_
                refine tz 7 24 (bs 10 255) HT_ HW_ hHeld ?_
                refine one_ (i := 8) (N := some 25) (bs 10 511) rfl rfl (one_of HT_.out (by kernel_rfl)) (by decide) (fun K hK => ?_)
                refine goes_ Tryz.func47 (by kernel_rfl) rfl #[.agg #[.string ((rd_T84 l0 x5_1).f0), .int .i64 ((rd_T84 l0 x5_1).f1)], .agg #[.string ((rd_T84 l1 x5_1).f0), .int .i64 ((rd_T84 l1 x5_1).f1)]] (by rfl) rfl rfl gA ?_
                with_reducible refine (laws_eqEntry.calls ((rd_T84 l0 x5_1).f0) ((rd_T84 l0 x5_1).f1) ((rd_T84 l1 x5_1).f0) ((rd_T84 l1 x5_1).f1) false _ A7.out).mono ?_
                rintro e w12 ⟨rfl, hb⟩
                refine ⟨_, rfl, ?_⟩
                have n0_ := Aside0.mk (below_step (w := w) bW hb)
                clear HB
                have HB := n0_
                clear n0_
                (try clear hb)
                refine hK.out _ _ ⟨((HB.out.cell (World.block_lt_of_cell? w _ hw331_0)).trans hw331_0), ((HB.out.cell (World.block_lt_of_cell? w _ hw331_1)).trans hw331_1), ((HB.out.cell (World.block_lt_of_cell? w _ hw332_0)).trans hw332_0), ((HB.out.cell (World.block_lt_of_cell? w _ hw332_1)).trans hw332_1)⟩ (fun hHeld => ?_)
                clear hK K
                refine norm_ (a' := ?_) ?_ ?_
                rotate_left
                · show Act.put _ (some 25) _ = _
                  simp only [Act.put, List.setIfInBounds_toArray, List.set_cons_zero, List.set_cons_succ, i64_w, i32_w]
                  rfl
                refine pz 9 26 (bs 10 1023) HT_ ?_
                refine done_ (done_of HT_.out (by kernel_rfl)) ?_
                try go_wp2
                go_ret
                exact ⟨rE, bW⟩
            · rw [if_neg c6] at H
              exact absurd H (by simp)
          · rw [if_neg c5] at H
            exact absurd H (by simp)
        · rw [if_neg c4] at H
          have c4b0 : decide (x5_1 < (l0.length : Int)) = false := decide_eq_false c4
          clear c4
          obtain rfl := Option.some.inj H
          go_wp2
          go_ret
          exact ⟨rE, bW⟩
  · rw [if_neg c3] at H
    have c3b0 : ((l0.length : Int) == (l1.length : Int)) = false := beq_eq_false_iff_ne.mpr c3
    have c3b1 : ((l0.length : Int) != (l1.length : Int)) = true := bne_iff_ne.mpr c3
    have c3b2 : (l0.length == l1.length) = false := by (simp at c3 ⊢; omega)
    obtain rfl := Option.some.inj H
    go_enter Tryz.func20, Tryz.ntmps20
    go_wp2
    go_ret
    exact ⟨rE, bW⟩
end Go.Proofs.YtblejbgkcgajgaaGreat.Q
end

section
namespace Go.Proofs.YtblejbgkcgajgaaGreat.Q
open Go.RowKit Go.Proofs.YtblejbgkcgajgaaGreatW.PrintWords Go.Proofs.YtblejbgkcgajgaaGreatW.PrintLast Go.Proofs.YtblejbgkcgajgaaGreatW.PrintMore
attribute [local go_sem] max2_int min2_int max_two min_two max_three min_three max_four min_four   -- for this text's walks alone
set_option linter.unusedVariables false
set_option linter.unusedSimpArgs false
attribute [local go_sem] bin_leq bin_gtr bin_geq
def laws_eqIntS.l0 : Nat → List Int → List Int → Int → Option (Bool)
  | 0, _, _, _ => none
  | k + 1, x0, x1, x5 => if x5 < (x0.length : Int) then (if 0 ≤ x5 then (if x5 < (x1.length : Int) then (if (rd x0 x5) = (rd x1 x5) then (laws_eqIntS.l0 k x0 x1 (wrap64 (x5 + 1))) else (some false)) else (none)) else (none)) else (some true)
def laws_eqIntS.f (k : Nat) (l0 : List Int) (l1 : List Int) : Option (Bool) := if (l0.length : Int) = (l1.length : Int) then (laws_eqIntS.l0 k l0 l1 0) else (some false)
set_option maxHeartbeats 8000000 in
set_option maxRecDepth 100000 in
theorem laws_eqIntS.calls (k : Nat) (A0 : Option Addr) (c0 : Nat) (l0 : List Int) (A1 : Option Addr) (c1 : Nat) (l1 : List Int) (r : Bool) (w : World) (hr0 : Kd.C (Kd.int .i64) w A0 l0.length l0) (hc0 : l0.length ≤ c0) (hr1 : Kd.C (Kd.int .i64) w A1 l1.length l1) (hc1 : l1.length ≤ c1) (h : laws_eqIntS.f k l0 l1 = some r) :
    Calls Tryz.prog 77 #[.slice A0 l0.length c0, .slice A1 l1.length c1] w fun e w' => e = .returned (.bool r) ∧ Drawn0 w w' := by
  have HR0 := Aside0.mk hr0
  have HC0 := Aside0.mk hc0
  clear hr0 hc0
  have HR1 := Aside0.mk hr1
  have HC1 := Aside0.mk hc1
  clear hr1 hc1
  have H : (if (l0.length : Int) = (l1.length : Int) then (laws_eqIntS.l0 k l0 l1 0) else (some false)) = some r := h
  clear h
  by_cases c3 : (l0.length : Int) = (l1.length : Int)
  · rw [if_pos c3] at H
    have c3b0 : ((l0.length : Int) == (l1.length : Int)) = true := beq_iff_eq.mpr c3
    have c3b1 : ((l0.length : Int) != (l1.length : Int)) = false := bne_eq_false_iff_eq.mpr c3
    have c3b2 : (l0.length == l1.length) = true := by (simp at c3 ⊢; omega)
    clear c3
    have H' := Aside0.mk H
    clear H
    go_enter Tryz.func77, Tryz.ntmps77
    go_wp2
    go_loopg [5] k (fun kq v5 w' => ∃ (x5_1 : Int), v5 = .int .i64 x5_1 ∧ Aside0 (laws_eqIntS.l0 kq l0 l1 x5_1 = some r) ∧ Aside0 (kq ≤ k) ∧ Drawn0 w w')
    case atStart => exact ⟨(0), vE, H', ⟨Nat.le_refl _⟩, by repeat (exact Drawn0.refl _)⟩
    case round =>
      clear H'
      try clear c3b0
      try clear c3b1
      try clear c3b2
      obtain ⟨x5_1, rfl, HA, HK1, ⟨m1, rfl⟩⟩ := hrel
      cases gk with
      | zero => exact absurd HA.out (by simp [laws_eqIntS.l0])
      | succ k1 =>
        have H := HA.out
        clear HA
        simp only [laws_eqIntS.l0] at H
        by_cases c4 : x5_1 < (l0.length : Int)
        · rw [if_pos c4] at H
          have c4b0 : decide (x5_1 < (l0.length : Int)) = true := decide_eq_true c4
          clear c4
          by_cases c5 : 0 ≤ x5_1
          · rw [if_pos c5] at H
            have c5b0 : decide (0 ≤ x5_1) = true := decide_eq_true c5
            clear c5
            by_cases c6 : x5_1 < (l1.length : Int)
            · rw [if_pos c6] at H
              have c6b0 : decide (x5_1 < (l1.length : Int)) = true := decide_eq_true c6
              clear c6
              by_cases c7 : (rd l0 x5_1) = (rd l1 x5_1)
              · rw [if_pos c7] at H
                have c7b0 : ((rd l0 x5_1) == (rd l1 x5_1)) = true := beq_iff_eq.mpr c7
                have c7b1 : ((rd l0 x5_1) != (rd l1 x5_1)) = false := bne_eq_false_iff_eq.mpr c7
                clear c7
                have H' := Aside0.mk H
                clear H
                have p334 : 0 ≤ (x5_1 : Int) := odt
                have q334 : x5_1 < (l0.length : Int) := odt
                obtain ⟨ad334, e334, hx334_0⟩ := Kd.at_int HR0.out x5_1 p334 q334
                cases e334
                replace p334 := eq_true p334
                replace q334 := eq_true q334
                have p335 : 0 ≤ (x5_1 : Int) := odt
                have q335 : x5_1 < (l1.length : Int) := odt
                obtain ⟨ad335, e335, hx335_0⟩ := Kd.at_int HR1.out x5_1 p335 q335
                cases e335
                replace p335 := eq_true p335
                replace q335 := eq_true q335
                go_wp2
                repeat (go_quiet (fail); try go_wp2)
                go_roundg k1
                case measure => have := HK1.out; omega
                case rel => exact ⟨(wrap64 (x5_1 + 1)), vE, H', ⟨by have := HK1.out; omega⟩, by repeat (first | exact Drawn0.refl _ | apply Drawn0.step)⟩
              · rw [if_neg c7] at H
                have c7b0 : ((rd l0 x5_1) == (rd l1 x5_1)) = false := beq_eq_false_iff_ne.mpr c7
                have c7b1 : ((rd l0 x5_1) != (rd l1 x5_1)) = true := bne_iff_ne.mpr c7
                obtain rfl := Option.some.inj H
                have p334 : 0 ≤ (x5_1 : Int) := odt
                have q334 : x5_1 < (l0.length : Int) := odt
                obtain ⟨ad334, e334, hx334_0⟩ := Kd.at_int HR0.out x5_1 p334 q334
                cases e334
                replace p334 := eq_true p334
                replace q334 := eq_true q334
                have p335 : 0 ≤ (x5_1 : Int) := odt
                have q335 : x5_1 < (l1.length : Int) := odt
                obtain ⟨ad335, e335, hx335_0⟩ := Kd.at_int HR1.out x5_1 p335 q335
                cases e335
                replace p335 := eq_true p335
                replace q335 := eq_true q335
                go_wp2
                repeat (go_quiet (fail); try go_wp2)
                go_ret
                exact ⟨by rfl, by repeat (first | exact Drawn0.refl _ | apply Drawn0.step)⟩
            · rw [if_neg c6] at H
              exact absurd H (by simp)
          · rw [if_neg c5] at H
            exact absurd H (by simp)
        · rw [if_neg c4] at H
          have c4b0 : decide (x5_1 < (l0.length : Int)) = false := decide_eq_false c4
          clear c4
          obtain rfl := Option.some.inj H
          go_wp2
          go_ret
          exact ⟨by rfl, by repeat (first | exact Drawn0.refl _ | apply Drawn0.step)⟩
  · rw [if_neg c3] at H
    have c3b0 : ((l0.length : Int) == (l1.length : Int)) = false := beq_eq_false_iff_ne.mpr c3
    have c3b1 : ((l0.length : Int) != (l1.length : Int)) = true := bne_iff_ne.mpr c3
    have c3b2 : (l0.length == l1.length) = false := by (simp at c3 ⊢; omega)
    obtain rfl := Option.some.inj H
    go_enter Tryz.func77, Tryz.ntmps77
    go_wp2
    go_ret
    exact ⟨by rfl, by repeat (exact Drawn0.refl _)⟩
end Go.Proofs.YtblejbgkcgajgaaGreat.Q
end

section
namespace Go.Proofs.YtblejbgkcgajgaaGreat.Q
open Go.RowKit Go.Proofs.YtblejbgkcgajgaaGreatW.PrintWords Go.Proofs.YtblejbgkcgajgaaGreatW.PrintLast Go.Proofs.YtblejbgkcgajgaaGreatW.PrintMore
attribute [local go_sem] max2_int min2_int max_two min_two max_three min_three max_four min_four   -- for this text's walks alone
set_option linter.unusedVariables false
set_option linter.unusedSimpArgs false
attribute [local go_sem] bin_leq bin_gtr bin_geq
def laws_eqCommit.f (k : Nat) (l0_0 : List Int) (l0_1 : List (S84)) (l1_0 : List Int) (l1_1 : List (S84)) : Option (Bool) := (laws_eqIntS.f k l0_0 l1_0).bind fun t338 => (if t338 = true then ((laws_eqEntryS.f k l0_1 l1_1).bind fun t339 => (if t339 = true then (some true) else (some false))) else (some false))
set_option maxHeartbeats 8000000 in
set_option maxRecDepth 100000 in
theorem laws_eqCommit.calls (k : Nat) (A0_0 : Option Addr) (c0_0 : Nat) (l0_0 : List Int) (A0_1 : Option Addr) (c0_1 : Nat) (l0_1 : List (S84)) (A1_0 : Option Addr) (c1_0 : Nat) (l1_0 : List Int) (A1_1 : Option Addr) (c1_1 : Nat) (l1_1 : List (S84)) (r : Bool) (w : World) (hr0_0 : Kd.C (Kd.int .i64) w A0_0 l0_0.length l0_0) (hc0_0 : l0_0.length ≤ c0_0) (hr0_1 : Kd.C k84 w A0_1 l0_1.length l0_1) (hc0_1 : l0_1.length ≤ c0_1) (hr1_0 : Kd.C (Kd.int .i64) w A1_0 l1_0.length l1_0) (hc1_0 : l1_0.length ≤ c1_0) (hr1_1 : Kd.C k84 w A1_1 l1_1.length l1_1) (hc1_1 : l1_1.length ≤ c1_1) (h : laws_eqCommit.f k l0_0 l0_1 l1_0 l1_1 = some r) :
    Calls Tryz.prog 48 #[.agg #[.slice A0_0 l0_0.length c0_0, .slice A0_1 l0_1.length c0_1], .agg #[.slice A1_0 l1_0.length c1_0, .slice A1_1 l1_1.length c1_1]] w fun e w' => e = .returned (.bool r) ∧ Below w.heap.size w w' := by
  have hu64 := Tryz.underlying64
  have HR0_0 := Aside0.mk hr0_0
  have HC0_0 := Aside0.mk hc0_0
  clear hr0_0 hc0_0
  have HR0_1 := Aside0.mk hr0_1
  have HC0_1 := Aside0.mk hc0_1
  clear hr0_1 hc0_1
  have HR1_0 := Aside0.mk hr1_0
  have HC1_0 := Aside0.mk hc1_0
  clear hr1_0 hc1_0
  have HR1_1 := Aside0.mk hr1_1
  have HC1_1 := Aside0.mk hc1_1
  clear hr1_1 hc1_1
  have HB := Aside0.mk (Below.refl w.heap.size w)
  have H : ((laws_eqIntS.f k l0_0 l1_0).bind fun t338 => (if t338 = true then ((laws_eqEntryS.f k l0_1 l1_1).bind fun t339 => (if t339 = true then (some true) else (some false))) else (some false))) = some r := h
  clear h
  replace H := Option.bind_eq_some_iff.mp H
  obtain ⟨t338, A30, H⟩ := H
  replace H : (if t338 = true then ((laws_eqEntryS.f k l0_1 l1_1).bind fun t339 => (if t339 = true then (some true) else (some false))) else (some false)) = some r := H
  have A3 := Aside0.mk A30
  clear A30
  by_cases c4 : t338 = true
  · subst c4
    have H1 : ((laws_eqEntryS.f k l0_1 l1_1).bind fun t339 => (if t339 = true then (some true) else (some false))) = some r := by rw [if_pos rfl] at H; exact H
    clear H
    have H := H1
    clear H1
    replace H := Option.bind_eq_some_iff.mp H
    obtain ⟨t339, A50, H⟩ := H
    replace H : (if t339 = true then (some true) else (some false)) = some r := H
    have A5 := Aside0.mk A50
    clear A50
    by_cases c6 : t339 = true
    · subst c6
      have H1 : (some true) = some r := by rw [if_pos rfl] at H; exact H
      clear H
      have H := H1
      clear H1
      obtain rfl := Option.some.inj H
      go_enter Tryz.func48, Tryz.ntmps48
      go_wp2_with (first | ((with_reducible refine gate_dst (N := 2) rfl ?_); refine bE (N := 2) (cs := #[.slice A0_0 l0_0.length c0_0, .slice A0_1 l0_1.length c0_1]) (t := 64) ?_; intro gb336 hg w7 hbox hb; have n0_ := Aside0.mk (below_step (w := w) bW hb); have n1_ := Aside0.mk (hbox); have n2_ := Aside0.mk (gS (w := w) hg); have n3_ := n2_; clear HB; have HB := n0_; have BK336 := n1_; have GW336 := n2_; have GE336 := n3_; clear n0_ n1_ n2_ n3_; clear hb hbox hg) | ((with_reducible refine gate_dst (N := 3) rfl ?_); refine bE (N := 3) (cs := #[.slice A1_0 l1_0.length c1_0, .slice A1_1 l1_1.length c1_1]) (t := 64) ?_; intro gb337 hg w8 hbox hb; have n0_ := Aside0.mk (kb BK336 hb); have n1_ := Aside0.mk (below_step (w := w) bW hb); have n2_ := Aside0.mk (hbox); have n3_ := Aside0.mk (gS (w := w) hg); have n4_ := n3_; have n5_ := Aside0.mk (nL BK336 hg); have n6_ := Aside0.mk (nG BK336 hg); clear BK336; clear HB; have BK336 := n0_; have HB := n1_; have BK337 := n2_; have GW337 := n3_; have GE337 := n4_; have NB336_337 := n5_; have NB337_336 := n6_; clear n0_ n1_ n2_ n3_ n4_ n5_ n6_; clear hb hbox hg; have hnb9 := NB336_337.out; have hnc9 := NB337_336.out; obtain ⟨hcz10_0, hcz10_1⟩ := cz2 BK336; obtain ⟨hfz10_0, hfz10_1⟩ := fz2 BK336; obtain ⟨hcz11_0, hcz11_1⟩ := cz2 BK337; obtain ⟨hfz11_0, hfz11_1⟩ := fz2 BK337) | ((with_reducible refine gate_callee (f := 77) rfl ?_); refine goesL_ (some 9) rfl rfl Tryz.func77 (by kernel_rfl) rfl #[.slice A0_0 l0_0.length c0_0, .slice A1_0 l1_0.length c1_0] rfl gA ?_; (with_reducible refine (laws_eqIntS.calls k _ _ l0_0 _ _ l1_0 true _ ?side1 ?side2 ?side3 ?side4 A3.out).mono ?_); (case side1 => exact cB HR0_0); (case side2 => exact HC0_0.out); (case side3 => exact cB HR1_0); (case side4 => exact HC1_0.out); rintro e w' ⟨rfl, ⟨nd, rfl⟩⟩; refine ⟨_, rfl, ?_⟩) | ((with_reducible refine gate_callee (f := 20) rfl ?_); refine goesL_ (some 15) rfl rfl Tryz.func20 (by kernel_rfl) rfl #[.slice A0_1 l0_1.length c0_1, .slice A1_1 l1_1.length c1_1] rfl gA ?_; (with_reducible refine (laws_eqEntryS.calls k _ _ l0_1 _ _ l1_1 true _ ?side1 ?side2 ?side3 ?side4 A5.out).mono ?_); (case side1 => exact cB HR0_1); (case side2 => exact HC0_1.out); (case side3 => exact cB HR1_1); (case side4 => exact HC1_1.out); rintro e w12 ⟨rfl, hb⟩; refine ⟨_, rfl, ?_⟩; have n0_ := Aside0.mk (kb BK336 hb); have n1_ := Aside0.mk (kb BK337 hb); have n2_ := Aside0.mk (below_step (w := w) bW hb); clear BK336; clear BK337; clear HB; have BK336 := n0_; have BK337 := n1_; have HB := n2_; clear n0_ n1_ n2_; (try clear hb)))
      go_ret
      exact ⟨rE, bW⟩
    · replace c6 := Bool.eq_false_iff.mpr c6
      subst c6
      have H1 : (some false) = some r := by rw [if_neg (show ¬ (false = true) by decide)] at H; exact H
      clear H
      have H := H1
      clear H1
      obtain rfl := Option.some.inj H
      go_enter Tryz.func48, Tryz.ntmps48
      go_wp2_with (first | ((with_reducible refine gate_dst (N := 2) rfl ?_); refine bE (N := 2) (cs := #[.slice A0_0 l0_0.length c0_0, .slice A0_1 l0_1.length c0_1]) (t := 64) ?_; intro gb336 hg w13 hbox hb; have n0_ := Aside0.mk (below_step (w := w) bW hb); have n1_ := Aside0.mk (hbox); have n2_ := Aside0.mk (gS (w := w) hg); have n3_ := n2_; clear HB; have HB := n0_; have BK336 := n1_; have GW336 := n2_; have GE336 := n3_; clear n0_ n1_ n2_ n3_; clear hb hbox hg) | ((with_reducible refine gate_dst (N := 3) rfl ?_); refine bE (N := 3) (cs := #[.slice A1_0 l1_0.length c1_0, .slice A1_1 l1_1.length c1_1]) (t := 64) ?_; intro gb337 hg w14 hbox hb; have n0_ := Aside0.mk (kb BK336 hb); have n1_ := Aside0.mk (below_step (w := w) bW hb); have n2_ := Aside0.mk (hbox); have n3_ := Aside0.mk (gS (w := w) hg); have n4_ := n3_; have n5_ := Aside0.mk (nL BK336 hg); have n6_ := Aside0.mk (nG BK336 hg); clear BK336; clear HB; have BK336 := n0_; have HB := n1_; have BK337 := n2_; have GW337 := n3_; have GE337 := n4_; have NB336_337 := n5_; have NB337_336 := n6_; clear n0_ n1_ n2_ n3_ n4_ n5_ n6_; clear hb hbox hg; have hnb15 := NB336_337.out; have hnc15 := NB337_336.out; obtain ⟨hcz16_0, hcz16_1⟩ := cz2 BK336; obtain ⟨hfz16_0, hfz16_1⟩ := fz2 BK336; obtain ⟨hcz17_0, hcz17_1⟩ := cz2 BK337; obtain ⟨hfz17_0, hfz17_1⟩ := fz2 BK337) | ((with_reducible refine gate_callee (f := 77) rfl ?_); refine goesL_ (some 9) rfl rfl Tryz.func77 (by kernel_rfl) rfl #[.slice A0_0 l0_0.length c0_0, .slice A1_0 l1_0.length c1_0] rfl gA ?_; (with_reducible refine (laws_eqIntS.calls k _ _ l0_0 _ _ l1_0 true _ ?side1 ?side2 ?side3 ?side4 A3.out).mono ?_); (case side1 => exact cB HR0_0); (case side2 => exact HC0_0.out); (case side3 => exact cB HR1_0); (case side4 => exact HC1_0.out); rintro e w' ⟨rfl, ⟨nd, rfl⟩⟩; refine ⟨_, rfl, ?_⟩) | ((with_reducible refine gate_callee (f := 20) rfl ?_); refine goesL_ (some 15) rfl rfl Tryz.func20 (by kernel_rfl) rfl #[.slice A0_1 l0_1.length c0_1, .slice A1_1 l1_1.length c1_1] rfl gA ?_; (with_reducible refine (laws_eqEntryS.calls k _ _ l0_1 _ _ l1_1 false _ ?side1 ?side2 ?side3 ?side4 A5.out).mono ?_); (case side1 => exact cB HR0_1); (case side2 => exact HC0_1.out); (case side3 => exact cB HR1_1); (case side4 => exact HC1_1.out); rintro e w18 ⟨rfl, hb⟩; refine ⟨_, rfl, ?_⟩; have n0_ := Aside0.mk (kb BK336 hb); have n1_ := Aside0.mk (kb BK337 hb); have n2_ := Aside0.mk (below_step (w := w) bW hb); clear BK336; clear BK337; clear HB; have BK336 := n0_; have BK337 := n1_; have HB := n2_; clear n0_ n1_ n2_; (try clear hb)))
      go_ret
      exact ⟨rE, bW⟩
  · replace c4 := Bool.eq_false_iff.mpr c4
    subst c4
    have H1 : (some false) = some r := by rw [if_neg (show ¬ (false = true) by decide)] at H; exact H
    clear H
    have H := H1
    clear H1
    obtain rfl := Option.some.inj H
    go_enter Tryz.func48, Tryz.ntmps48
    go_wp2_with (first | ((with_reducible refine gate_dst (N := 2) rfl ?_); refine bE (N := 2) (cs := #[.slice A0_0 l0_0.length c0_0, .slice A0_1 l0_1.length c0_1]) (t := 64) ?_; intro gb336 hg w19 hbox hb; have n0_ := Aside0.mk (below_step (w := w) bW hb); have n1_ := Aside0.mk (hbox); have n2_ := Aside0.mk (gS (w := w) hg); have n3_ := n2_; clear HB; have HB := n0_; have BK336 := n1_; have GW336 := n2_; have GE336 := n3_; clear n0_ n1_ n2_ n3_; clear hb hbox hg) | ((with_reducible refine gate_dst (N := 3) rfl ?_); refine bE (N := 3) (cs := #[.slice A1_0 l1_0.length c1_0, .slice A1_1 l1_1.length c1_1]) (t := 64) ?_; intro gb337 hg w20 hbox hb; have n0_ := Aside0.mk (kb BK336 hb); have n1_ := Aside0.mk (below_step (w := w) bW hb); have n2_ := Aside0.mk (hbox); have n3_ := Aside0.mk (gS (w := w) hg); have n4_ := n3_; have n5_ := Aside0.mk (nL BK336 hg); have n6_ := Aside0.mk (nG BK336 hg); clear BK336; clear HB; have BK336 := n0_; have HB := n1_; have BK337 := n2_; have GW337 := n3_; have GE337 := n4_; have NB336_337 := n5_; have NB337_336 := n6_; clear n0_ n1_ n2_ n3_ n4_ n5_ n6_; clear hb hbox hg; have hnb21 := NB336_337.out; have hnc21 := NB337_336.out; obtain ⟨hcz22_0, hcz22_1⟩ := cz2 BK336; obtain ⟨hfz22_0, hfz22_1⟩ := fz2 BK336; obtain ⟨hcz23_0, hcz23_1⟩ := cz2 BK337; obtain ⟨hfz23_0, hfz23_1⟩ := fz2 BK337) | ((with_reducible refine gate_callee (f := 77) rfl ?_); refine goesL_ (some 9) rfl rfl Tryz.func77 (by kernel_rfl) rfl #[.slice A0_0 l0_0.length c0_0, .slice A1_0 l1_0.length c1_0] rfl gA ?_; (with_reducible refine (laws_eqIntS.calls k _ _ l0_0 _ _ l1_0 false _ ?side1 ?side2 ?side3 ?side4 A3.out).mono ?_); (case side1 => exact cB HR0_0); (case side2 => exact HC0_0.out); (case side3 => exact cB HR1_0); (case side4 => exact HC1_0.out); rintro e w' ⟨rfl, ⟨nd, rfl⟩⟩; refine ⟨_, rfl, ?_⟩))
    go_ret
    exact ⟨rE, bW⟩
end Go.Proofs.YtblejbgkcgajgaaGreat.Q
end

section
namespace Go.Proofs.YtblejbgkcgajgaaGreat.Q
open Go.RowKit Go.Proofs.YtblejbgkcgajgaaGreatW.PrintWords Go.Proofs.YtblejbgkcgajgaaGreatW.PrintLast Go.Proofs.YtblejbgkcgajgaaGreatW.PrintMore
attribute [local go_sem] max2_int min2_int max_two min_two max_three min_three max_four min_four   -- for this text's walks alone
set_option linter.unusedVariables false
set_option linter.unusedSimpArgs false
attribute [local go_sem] bin_leq bin_gtr bin_geq
def laws_eqCommitS.l0 : Nat → List (S64) → List (S64) → Int → Option (Bool)
 | 0, _, _, _ => none
 | k + 1, x0, x1, x5 => if x5 < (x0.length : Int) then (if 0 ≤ x5 then (if x5 < (x1.length : Int) then ((laws_eqCommit.f k ((rd_T64 x0 x5).f0) ((rd_T64 x0 x5).f1) ((rd_T64 x1 x5).f0) ((rd_T64 x1 x5).f1)).bind fun t342 => (if t342 = true then (laws_eqCommitS.l0 k x0 x1 (wrap64 (x5 + 1))) else (some false))) else (none)) else (none)) else (some true)
def laws_eqCommitS.f (k : Nat) (l0 : List (S64)) (l1 : List (S64)) : Option (Bool) := if (l0.length : Int) = (l1.length : Int) then (laws_eqCommitS.l0 k l0 l1 0) else (some false)
def laws_eqCommitS.T6 : Bool × List (List Nat × List Nat) := (true, [([], []), ([], []), ([0, 1], [0, 1]), ([2], [2]), ([], []), ([], []), ([4, 5], [4, 5]), ([6], [6]), ([3, 7], [3, 7]), ([8], [8])])
def laws_eqCommitS.B6 : List Nat := [0, 0, 3, 7, 0, 0, 48, 112, 255, 511]
theorem laws_eqCommitS.tab6 : rtab .any (opsOf Tryz.f22 6) = laws_eqCommitS.T6 := by kernel_rfl
theorem laws_eqCommitS.bits6 : waitsOk laws_eqCommitS.T6.2 laws_eqCommitS.B6 = true := by kernel_rfl
set_option maxHeartbeats 8000000 in
set_option maxRecDepth 100000 in
theorem laws_eqCommitS.calls (k : Nat) (A0 : Option Addr) (c0 : Nat) (l0 : List (S64)) (A1 : Option Addr) (c1 : Nat) (l1 : List (S64)) (r : Bool) (w : World) (hr0 : Kd.C k64 w A0 l0.length l0) (hc0 : l0.length ≤ c0) (hr1 : Kd.C k64 w A1 l1.length l1) (hc1 : l1.length ≤ c1) (h : laws_eqCommitS.f k l0 l1 = some r) :
  Calls Tryz.prog 22 #[.slice A0 l0.length c0, .slice A1 l1.length c1] w fun e w' => e = .returned (.bool r) ∧ Below w.heap.size w w' := by
 have hu64 := Tryz.underlying64
 have HR0 := Aside0.mk hr0
 have HC0 := Aside0.mk hc0
 clear hr0 hc0
 have HR1 := Aside0.mk hr1
 have HC1 := Aside0.mk hc1
 clear hr1 hc1
 have HB := Aside0.mk (Below.refl w.heap.size w)
 have H : (if (l0.length : Int) = (l1.length : Int) then (laws_eqCommitS.l0 k l0 l1 0) else (some false)) = some r := h
 clear h
 by_cases c3 : (l0.length : Int) = (l1.length : Int)
 ·rw [if_pos c3] at H
  have c3b0 : ((l0.length : Int) == (l1.length : Int)) = true := beq_iff_eq.mpr c3
  have c3b1 : ((l0.length : Int) != (l1.length : Int)) = false := bne_eq_false_iff_eq.mpr c3
  have c3b2 : (l0.length == l1.length) = true := by (simp at c3 ⊢; omega)
  clear c3
  have H' := Aside0.mk H
  clear H
  go_enter Tryz.func22, Tryz.ntmps22
  go_wp2
  go_loopg [5] k (fun kq v5 w' => ∃ (x5_1 : Int), v5 = .int .i64 x5_1 ∧ Aside0 (laws_eqCommitS.l0 kq l0 l1 x5_1 = some r) ∧ Aside0 (kq ≤ k) ∧ Aside0 (Below w.heap.size w w'))
  case atStart => exact ⟨(0), vE, H', ⟨Nat.le_refl _⟩, ⟨bW⟩⟩
  case round =>
   clear H'
   try clear c3b0
   try clear c3b1
   try clear c3b2
   obtain ⟨x5_1, rfl, HA, HK1, HB⟩ := hrel
   cases gk with
   | zero => exact absurd HA.out (by simp [laws_eqCommitS.l0])
   | succ k1 =>
    have H := HA.out
    clear HA
    simp only [laws_eqCommitS.l0] at H
    by_cases c4 : x5_1 < (l0.length : Int)
    ·rw [if_pos c4] at H
     have c4b0 : decide (x5_1 < (l0.length : Int)) = true := decide_eq_true c4
     clear c4
     by_cases c5 : 0 ≤ x5_1
     ·rw [if_pos c5] at H
      have c5b0 : decide (0 ≤ x5_1) = true := decide_eq_true c5
      clear c5
      by_cases c6 : x5_1 < (l1.length : Int)
      ·rw [if_pos c6] at H
       have c6b0 : decide (x5_1 < (l1.length : Int)) = true := decide_eq_true c6
       clear c6
       replace H := Option.bind_eq_some_iff.mp H
       obtain ⟨t342, A70, H⟩ := H
       replace H : (if t342 = true then (laws_eqCommitS.l0 k1 l0 l1 (wrap64 (x5_1 + 1))) else (some false)) = some r := H
       have A7 := Aside0.mk A70
       clear A70
       by_cases c8 : t342 = true
       ·subst c8
        have H1 : (laws_eqCommitS.l0 k1 l0 l1 (wrap64 (x5_1 + 1))) = some r := by rw [if_pos rfl] at H; exact H
        clear H
        have H := H1
        clear H1
        have H' := Aside0.mk H
        clear H
        try go_wp2
        have n0_ := Aside0.mk (below_drew1 HB.out)
        clear HB
        have HB := n0_
        clear n0_
        have p340 : 0 ≤ (x5_1 : Int) := odt
        have q340 : x5_1 < (l0.length : Int) := odt
        obtain ⟨ad340, A340_0, c340_0, A340_1, c340_1, e340, hx340_0, hx340_1, hl340_0, hi340_0, hl340_1, hi340_1⟩ := at_T64 HR0.out x5_1 p340 q340
        have hw340_1 := hx340_1
        have hw340_0 := hx340_0
        cases e340
        replace hx340_0 := (HB.out.cell (World.block_lt_of_cell? w _ hx340_0)).trans hx340_0
        replace hx340_1 := (HB.out.cell (World.block_lt_of_cell? w _ hx340_1)).trans hx340_1
        have HR340_0 := Aside0.mk hi340_0
        have HC340_0 := Aside0.mk hl340_0
        clear hi340_0 hl340_0
        have HR340_1 := Aside0.mk hi340_1
        have HC340_1 := Aside0.mk hl340_1
        clear hi340_1 hl340_1
        replace p340 := eq_true p340
        replace q340 := eq_true q340
        have p341 : 0 ≤ (x5_1 : Int) := odt
        have q341 : x5_1 < (l1.length : Int) := odt
        obtain ⟨ad341, A341_0, c341_0, A341_1, c341_1, e341, hx341_0, hx341_1, hl341_0, hi341_0, hl341_1, hi341_1⟩ := at_T64 HR1.out x5_1 p341 q341
        have hw341_1 := hx341_1
        have hw341_0 := hx341_0
        cases e341
        replace hx341_0 := (HB.out.cell (World.block_lt_of_cell? w _ hx341_0)).trans hx341_0
        replace hx341_1 := (HB.out.cell (World.block_lt_of_cell? w _ hx341_1)).trans hx341_1
        have HR341_0 := Aside0.mk hi341_0
        have HC341_0 := Aside0.mk hl341_0
        clear hi341_0 hl341_0
        have HR341_1 := Aside0.mk hi341_1
        have HC341_1 := Aside0.mk hl341_1
        clear hi341_1 hl341_1
        replace p341 := eq_true p341
        replace q341 := eq_true q341
        refine start_ (n := 10) (S := fun w' => w'.cell? (ad340.add ((x5_1).toNat * 2)) = some (.slice A340_0 ((rd_T64 l0 x5_1).f0).length c340_0) ∧ w'.cell? ⟨(ad340.add ((x5_1).toNat * 2)).block, (ad340.add ((x5_1).toNat * 2)).off + 1, none⟩ = some (.slice A340_1 ((rd_T64 l0 x5_1).f1).length c340_1) ∧ w'.cell? (ad341.add ((x5_1).toNat * 2)) = some (.slice A341_0 ((rd_T64 l1 x5_1).f0).length c341_0) ∧ w'.cell? ⟨(ad341.add ((x5_1).toNat * 2)).block, (ad341.add ((x5_1).toNat * 2)).off + 1, none⟩ = some (.slice A341_1 ((rd_T64 l1 x5_1).f1).length c341_1)) (ds := []) (bs 10 0) (by kernel_rfl) rfl rfl ⟨((HB.out.cell (World.block_lt_of_cell? w _ hw340_0)).trans hw340_0), ((HB.out.cell (World.block_lt_of_cell? w _ hw340_1)).trans hw340_1), ((HB.out.cell (World.block_lt_of_cell? w _ hw341_0)).trans hw341_0), ((HB.out.cell (World.block_lt_of_cell? w _ hw341_1)).trans hw341_1)⟩ (fun hHeld => ?_); refine with_tabW laws_eqCommitS.tab6 laws_eqCommitS.bits6 (fun HT_ HW_ => ?_)
        generalize wr.drew = w9 at HB HR340_0 HR340_1 HR341_0 HR341_1 hx340_0 hx340_1 hx341_0 hx341_1 hHeld ⊢
        refine pz 0 17 (bs 10 1) HT_ ?_
        refine pz 1 18 (bs 10 3) HT_ ?_
        refine pz 2 19 (bs 10 7) HT_ ?_
        refine pz 4 21 (bs 10 23) HT_ ?_
        refine pz 5 22 (bs 10 55) HT_ ?_
        refine pz 6 23 (bs 10 119) HT_ ?_
        refine tz 3 20 (bs 10 127) HT_ HW_ hHeld ?_
        refine tz 7 24 (bs 10 255) HT_ HW_ hHeld ?_
        refine one_ (i := 8) (N := some 25) (bs 10 511) rfl rfl (one_of HT_.out (by kernel_rfl)) (by decide) (fun K hK => ?_)
        refine goes_ Tryz.func48 (by kernel_rfl) rfl #[.agg #[.slice A340_0 ((rd_T64 l0 x5_1).f0).length c340_0, .slice A340_1 ((rd_T64 l0 x5_1).f1).length c340_1], .agg #[.slice A341_0 ((rd_T64 l1 x5_1).f0).length c341_0, .slice A341_1 ((rd_T64 l1 x5_1).f1).length c341_1]] (by rfl) rfl rfl gA ?_
        with_reducible refine (laws_eqCommit.calls k1 _ _ ((rd_T64 l0 x5_1).f0) _ _ ((rd_T64 l0 x5_1).f1) _ _ ((rd_T64 l1 x5_1).f0) _ _ ((rd_T64 l1 x5_1).f1) true _ ?side1 ?side2 ?side3 ?side4 ?side5 ?side6 ?side7 ?side8 A7.out).mono ?_
        (case side1 => exact cB HR340_0)
        (case side2 => exact HC340_0.out)
        (case side3 => exact cB HR340_1)
        (case side4 => exact HC340_1.out)
        (case side5 => exact cB HR341_0)
        (case side6 => exact HC341_0.out)
        (case side7 => exact cB HR341_1)
        (case side8 => exact HC341_1.out)
        rintro e w10 ⟨rfl, hb⟩
        refine ⟨_, rfl, ?_⟩
        have n0_ := Aside0.mk (below_step (w := w) bW hb)
        clear HB
        have HB := n0_
        clear n0_
        (try clear hb)
        refine hK.out _ _ ⟨((HB.out.cell (World.block_lt_of_cell? w _ hw340_0)).trans hw340_0), ((HB.out.cell (World.block_lt_of_cell? w _ hw340_1)).trans hw340_1), ((HB.out.cell (World.block_lt_of_cell? w _ hw341_0)).trans hw341_0), ((HB.out.cell (World.block_lt_of_cell? w _ hw341_1)).trans hw341_1)⟩ (fun hHeld => ?_)
        clear hK K
        refine norm_ (a' := ?_) ?_ ?_
        rotate_left
        ·show Act.put _ (some 25) _ = _
         simp only [Act.put, List.setIfInBounds_toArray, List.set_cons_zero, List.set_cons_succ, i64_w, i32_w]
         rfl
        refine pz 9 26 (bs 10 1023) HT_ ?_
        refine done_ (done_of HT_.out (by kernel_rfl)) ?_
        try go_wp2
        go_roundg k1
        case measure => have := HK1.out; omega
        case rel => exact ⟨(wrap64 (x5_1 + 1)), vE, H', ⟨by have := HK1.out; omega⟩, ⟨bW⟩⟩
       ·replace c8 := Bool.eq_false_iff.mpr c8
        subst c8
        have H1 : (some false) = some r := by rw [if_neg (show ¬ (false = true) by decide)] at H; exact H
        clear H
        have H := H1
        clear H1
        obtain rfl := Option.some.inj H
        try go_wp2
        have n0_ := Aside0.mk (below_drew1 HB.out)
        clear HB
        have HB := n0_
        clear n0_
        have p340 : 0 ≤ (x5_1 : Int) := odt
        have q340 : x5_1 < (l0.length : Int) := odt
        obtain ⟨ad340, A340_0, c340_0, A340_1, c340_1, e340, hx340_0, hx340_1, hl340_0, hi340_0, hl340_1, hi340_1⟩ := at_T64 HR0.out x5_1 p340 q340
        have hw340_1 := hx340_1
        have hw340_0 := hx340_0
        cases e340
        replace hx340_0 := (HB.out.cell (World.block_lt_of_cell? w _ hx340_0)).trans hx340_0
        replace hx340_1 := (HB.out.cell (World.block_lt_of_cell? w _ hx340_1)).trans hx340_1
        have HR340_0 := Aside0.mk hi340_0
        have HC340_0 := Aside0.mk hl340_0
        clear hi340_0 hl340_0
        have HR340_1 := Aside0.mk hi340_1
        have HC340_1 := Aside0.mk hl340_1
        clear hi340_1 hl340_1
        replace p340 := eq_true p340
        replace q340 := eq_true q340
        have p341 : 0 ≤ (x5_1 : Int) := odt
        have q341 : x5_1 < (l1.length : Int) := odt
        obtain ⟨ad341, A341_0, c341_0, A341_1, c341_1, e341, hx341_0, hx341_1, hl341_0, hi341_0, hl341_1, hi341_1⟩ := at_T64 HR1.out x5_1 p341 q341
        have hw341_1 := hx341_1
        have hw341_0 := hx341_0
        cases e341
        replace hx341_0 := (HB.out.cell (World.block_lt_of_cell? w _ hx341_0)).trans hx341_0
        replace hx341_1 := (HB.out.cell (World.block_lt_of_cell? w _ hx341_1)).trans hx341_1
        have HR341_0 := Aside0.mk hi341_0
        have HC341_0 := Aside0.mk hl341_0
        clear hi341_0 hl341_0
        have HR341_1 := Aside0.mk hi341_1
        have HC341_1 := Aside0.mk hl341_1
        clear hi341_1 hl341_1
        replace p341 := eq_true p341
        replace q341 := eq_true q341
        refine start_ (n := 10) (S := fun w' => w'.cell? (ad340.add ((x5_1).toNat * 2)) = some (.slice A340_0 ((rd_T64 l0 x5_1).f0).length c340_0) ∧ w'.cell? ⟨(ad340.add ((x5_1).toNat * 2)).block, (ad340.add ((x5_1).toNat * 2)).off + 1, none⟩ = some (.slice A340_1 ((rd_T64 l0 x5_1).f1).length c340_1) ∧ w'.cell? (ad341.add ((x5_1).toNat * 2)) = some (.slice A341_0 ((rd_T64 l1 x5_1).f0).length c341_0) ∧ w'.cell? ⟨(ad341.add ((x5_1).toNat * 2)).block, (ad341.add ((x5_1).toNat * 2)).off + 1, none⟩ = some (.slice A341_1 ((rd_T64 l1 x5_1).f1).length c341_1)) (ds := []) (bs 10 0) (by kernel_rfl) rfl rfl ⟨((HB.out.cell (World.block_lt_of_cell? w _ hw340_0)).trans hw340_0), ((HB.out.cell (World.block_lt_of_cell? w _ hw340_1)).trans hw340_1), ((HB.out.cell (World.block_lt_of_cell? w _ hw341_0)).trans hw341_0), ((HB.out.cell (World.block_lt_of_cell? w _ hw341_1)).trans hw341_1)⟩ (fun hHeld => ?_); refine with_tabW laws_eqCommitS.tab6 laws_eqCommitS.bits6 (fun HT_ HW_ => ?_)
        generalize wr.drew = w11 at HB HR340_0 HR340_1 HR341_0 HR341_1 hx340_0 hx340_1 hx341_0 hx341_1 hHeld ⊢
        refine pz 0 17 (bs 10 1) HT_ ?_
        refine pz 1 18 (bs 10 3) HT_ ?_
        refine pz 2 19 (bs 10 7) HT_ ?_
        refine pz 4 21 (bs 10 23) HT_ ?_
        refine pz 5 22 (bs 10 55) HT_ ?_
        refine pz 6 23 (bs 10 119) HT_ ?_
        refine tz 3 20 (bs 10 127) HT_ HW_ hHeld ?_
        refine tz 7 24 (bs 10 255) HT_ HW_ hHeld ?_
        refine one_ (i := 8) (N := some 25) (bs 10 511) rfl rfl (one_of HT_.out (by kernel_rfl)) (by decide) (fun K hK => ?_)
        refine goes_ Tryz.func48 (by kernel_rfl) rfl #[.agg #[.slice A340_0 ((rd_T64 l0 x5_1).f0).length c340_0, .slice A340_1 ((rd_T64 l0 x5_1).f1).length c340_1], .agg #[.slice A341_0 ((rd_T64 l1 x5_1).f0).length c341_0, .slice A341_1 ((rd_T64 l1 x5_1).f1).length c341_1]] (by rfl) rfl rfl gA ?_
        with_reducible refine (laws_eqCommit.calls k1 _ _ ((rd_T64 l0 x5_1).f0) _ _ ((rd_T64 l0 x5_1).f1) _ _ ((rd_T64 l1 x5_1).f0) _ _ ((rd_T64 l1 x5_1).f1) false _ ?side1 ?side2 ?side3 ?side4 ?side5 ?side6 ?side7 ?side8 A7.out).mono ?_
        (case side1 => exact cB HR340_0)
        (case side2 => exact HC340_0.out)
        (case side3 => exact cB HR340_1)
        (case side4 => exact HC340_1.out)
        (case side5 => exact cB HR341_0)
        (case side6 => exact HC341_0.out)
        (case side7 => exact cB HR341_1)
        (case side8 => exact HC341_1.out)
        rintro e w12 ⟨rfl, hb⟩
        refine ⟨_, rfl, ?_⟩
        have n0_ := Aside0.mk (below_step (w := w) bW hb)
        clear HB
        have HB := n0_
        clear n0_
        (try clear hb)
        refine hK.out _ _ ⟨((HB.out.cell (World.block_lt_of_cell? w _ hw340_0)).trans hw340_0), ((HB.out.cell (World.block_lt_of_cell? w _ hw340_1)).trans hw340_1), ((HB.out.cell (World.block_lt_of_cell? w _ hw341_0)).trans hw341_0), ((HB.out.cell (World.block_lt_of_cell? w _ hw341_1)).trans hw341_1)⟩ (fun hHeld => ?_)
        clear hK K
        refine norm_ (a' := ?_) ?_ ?_
        rotate_left
        ·show Act.put _ (some 25) _ = _
         simp only [Act.put, List.setIfInBounds_toArray, List.set_cons_zero, List.set_cons_succ, i64_w, i32_w]
         rfl
        refine pz 9 26 (bs 10 1023) HT_ ?_
        refine done_ (done_of HT_.out (by kernel_rfl)) ?_
        try go_wp2
        go_ret
        exact ⟨rE, bW⟩
      ·rw [if_neg c6] at H
       exact absurd H (by simp)
     ·rw [if_neg c5] at H
      exact absurd H (by simp)
    ·rw [if_neg c4] at H
     have c4b0 : decide (x5_1 < (l0.length : Int)) = false := decide_eq_false c4
     clear c4
     obtain rfl := Option.some.inj H
     go_wp2
     go_ret
     exact ⟨rE, bW⟩
 ·rw [if_neg c3] at H
  have c3b0 : ((l0.length : Int) == (l1.length : Int)) = false := beq_eq_false_iff_ne.mpr c3
  have c3b1 : ((l0.length : Int) != (l1.length : Int)) = true := bne_iff_ne.mpr c3
  have c3b2 : (l0.length == l1.length) = false := by (simp at c3 ⊢; omega)
  obtain rfl := Option.some.inj H
  go_enter Tryz.func22, Tryz.ntmps22
  go_wp2
  go_ret
  exact ⟨rE, bW⟩
end Go.Proofs.YtblejbgkcgajgaaGreat.Q
end

section
namespace Go.Proofs.YtblejbgkcgajgaaGreat.Q
open Go.RowKit Go.Proofs.YtblejbgkcgajgaaGreatW.PrintWords Go.Proofs.YtblejbgkcgajgaaGreatW.PrintLast Go.Proofs.YtblejbgkcgajgaaGreatW.PrintMore
attribute [local go_sem] max2_int min2_int max_two min_two max_three min_three max_four min_four   -- for this text's walks alone
set_option linter.unusedVariables false
set_option linter.unusedSimpArgs false
attribute [local go_sem] bin_leq bin_gtr bin_geq
def laws_eqRef.f (a0_0 : ByteArray) (a0_1 : Int) (a0_2 : Int) (a0_3 : Bool) (a1_0 : ByteArray) (a1_1 : Int) (a1_2 : Int) (a1_3 : Bool) : Option (Bool) := if a0_0.toList = a1_0.toList then (if a0_1 = a1_1 then (if a0_2 = a1_2 then (if (a0_3 != a1_3) = true then (some false) else (some true)) else (some false)) else (some false)) else (some false)
set_option maxHeartbeats 8000000 in
set_option maxRecDepth 100000 in
theorem laws_eqRef.calls (a0_0 : ByteArray) (a0_1 : Int) (a0_2 : Int) (a0_3 : Bool) (a1_0 : ByteArray) (a1_1 : Int) (a1_2 : Int) (a1_3 : Bool) (r : Bool) (w : World) (h : laws_eqRef.f a0_0 a0_1 a0_2 a0_3 a1_0 a1_1 a1_2 a1_3 = some r) :
    Calls Tryz.prog 63 #[.agg #[.string a0_0, .int .i64 a0_1, .int .i64 a0_2, .bool a0_3], .agg #[.string a1_0, .int .i64 a1_1, .int .i64 a1_2, .bool a1_3]] w fun e w' => e = .returned (.bool r) ∧ Below w.heap.size w w' := by
  have hu92 := Tryz.underlying92
  have HB := Aside0.mk (Below.refl w.heap.size w)
  have H : (if a0_0.toList = a1_0.toList then (if a0_1 = a1_1 then (if a0_2 = a1_2 then (if (a0_3 != a1_3) = true then (some false) else (some true)) else (some false)) else (some false)) else (some false)) = some r := h
  clear h
  by_cases c3 : a0_0.toList = a1_0.toList
  · rw [if_pos c3] at H
    have c3b0 : (a0_0.toList == a1_0.toList) = true := beq_iff_eq.mpr c3
    have c3b1 : (a0_0.toList != a1_0.toList) = false := bne_eq_false_iff_eq.mpr c3
    clear c3
    by_cases c4 : a0_1 = a1_1
    · rw [if_pos c4] at H
      have c4b0 : (a0_1 == a1_1) = true := beq_iff_eq.mpr c4
      have c4b1 : (a0_1 != a1_1) = false := bne_eq_false_iff_eq.mpr c4
      clear c4
      by_cases c5 : a0_2 = a1_2
      · rw [if_pos c5] at H
        have c5b0 : (a0_2 == a1_2) = true := beq_iff_eq.mpr c5
        have c5b1 : (a0_2 != a1_2) = false := bne_eq_false_iff_eq.mpr c5
        clear c5
        by_cases c6 : (a0_3 != a1_3) = true
        · rw [if_pos c6] at H
          have c6b0 : (a0_3 != a1_3) = true := c6
          (try (have c6b1 : decide (a0_3 = a1_3) = false := by simpa using c6))
          (try (have c6b2 : (a0_3 == a1_3) = false := by simpa using c6))
          (try (have c6b3 : ¬ (a0_3 = a1_3) := by simpa using c6))
          clear c6
          obtain rfl := Option.some.inj H
          go_enter Tryz.func63, Tryz.ntmps63
          go_wp2_with (first | ((with_reducible refine gate_dst (N := 2) rfl ?_); refine bE (N := 2) (cs := #[.string a0_0, .int .i64 a0_1, .int .i64 a0_2, .bool a0_3]) (t := 92) ?_; intro gb343 hg w7 hbox hb; have n0_ := Aside0.mk (below_step (w := w) bW hb); have n1_ := Aside0.mk (hbox); have n2_ := Aside0.mk (gS (w := w) hg); have n3_ := n2_; clear HB; have HB := n0_; have BK343 := n1_; have GW343 := n2_; have GE343 := n3_; clear n0_ n1_ n2_ n3_; clear hb hbox hg) | ((with_reducible refine gate_dst (N := 3) rfl ?_); refine bE (N := 3) (cs := #[.string a1_0, .int .i64 a1_1, .int .i64 a1_2, .bool a1_3]) (t := 92) ?_; intro gb344 hg w8 hbox hb; have n0_ := Aside0.mk (kb BK343 hb); have n1_ := Aside0.mk (below_step (w := w) bW hb); have n2_ := Aside0.mk (hbox); have n3_ := Aside0.mk (gS (w := w) hg); have n4_ := n3_; have n5_ := Aside0.mk (nL BK343 hg); have n6_ := Aside0.mk (nG BK343 hg); clear BK343; clear HB; have BK343 := n0_; have HB := n1_; have BK344 := n2_; have GW344 := n3_; have GE344 := n4_; have NB343_344 := n5_; have NB344_343 := n6_; clear n0_ n1_ n2_ n3_ n4_ n5_ n6_; clear hb hbox hg; have hnb9 := NB343_344.out; have hnc9 := NB344_343.out; obtain ⟨hcz10_0, hcz10_1, hcz10_2, hcz10_3⟩ := cz4 BK343; obtain ⟨hfz10_0, hfz10_1, hfz10_2, hfz10_3⟩ := fz4 BK343; obtain ⟨hcz11_0, hcz11_1, hcz11_2, hcz11_3⟩ := cz4 BK344; obtain ⟨hfz11_0, hfz11_1, hfz11_2, hfz11_3⟩ := fz4 BK344))
          go_ret
          exact ⟨rE, bW⟩
        · rw [if_neg c6] at H
          have c6b0 : (a0_3 != a1_3) = false := by simpa using c6
          (try (have c6b1 : decide (a0_3 = a1_3) = true := by simpa using c6))
          (try (have c6b2 : (a0_3 == a1_3) = true := by simpa using c6))
          clear c6
          obtain rfl := Option.some.inj H
          go_enter Tryz.func63, Tryz.ntmps63
          go_wp2_with (first | ((with_reducible refine gate_dst (N := 2) rfl ?_); refine bE (N := 2) (cs := #[.string a0_0, .int .i64 a0_1, .int .i64 a0_2, .bool a0_3]) (t := 92) ?_; intro gb343 hg w12 hbox hb; have n0_ := Aside0.mk (below_step (w := w) bW hb); have n1_ := Aside0.mk (hbox); have n2_ := Aside0.mk (gS (w := w) hg); have n3_ := n2_; clear HB; have HB := n0_; have BK343 := n1_; have GW343 := n2_; have GE343 := n3_; clear n0_ n1_ n2_ n3_; clear hb hbox hg) | ((with_reducible refine gate_dst (N := 3) rfl ?_); refine bE (N := 3) (cs := #[.string a1_0, .int .i64 a1_1, .int .i64 a1_2, .bool a1_3]) (t := 92) ?_; intro gb344 hg w13 hbox hb; have n0_ := Aside0.mk (kb BK343 hb); have n1_ := Aside0.mk (below_step (w := w) bW hb); have n2_ := Aside0.mk (hbox); have n3_ := Aside0.mk (gS (w := w) hg); have n4_ := n3_; have n5_ := Aside0.mk (nL BK343 hg); have n6_ := Aside0.mk (nG BK343 hg); clear BK343; clear HB; have BK343 := n0_; have HB := n1_; have BK344 := n2_; have GW344 := n3_; have GE344 := n4_; have NB343_344 := n5_; have NB344_343 := n6_; clear n0_ n1_ n2_ n3_ n4_ n5_ n6_; clear hb hbox hg; have hnb14 := NB343_344.out; have hnc14 := NB344_343.out; obtain ⟨hcz15_0, hcz15_1, hcz15_2, hcz15_3⟩ := cz4 BK343; obtain ⟨hfz15_0, hfz15_1, hfz15_2, hfz15_3⟩ := fz4 BK343; obtain ⟨hcz16_0, hcz16_1, hcz16_2, hcz16_3⟩ := cz4 BK344; obtain ⟨hfz16_0, hfz16_1, hfz16_2, hfz16_3⟩ := fz4 BK344))
          go_ret
          exact ⟨rE, bW⟩
      · rw [if_neg c5] at H
        have c5b0 : (a0_2 == a1_2) = false := beq_eq_false_iff_ne.mpr c5
        have c5b1 : (a0_2 != a1_2) = true := bne_iff_ne.mpr c5
        obtain rfl := Option.some.inj H
        go_enter Tryz.func63, Tryz.ntmps63
        go_wp2_with (first | ((with_reducible refine gate_dst (N := 2) rfl ?_); refine bE (N := 2) (cs := #[.string a0_0, .int .i64 a0_1, .int .i64 a0_2, .bool a0_3]) (t := 92) ?_; intro gb343 hg w17 hbox hb; have n0_ := Aside0.mk (below_step (w := w) bW hb); have n1_ := Aside0.mk (hbox); have n2_ := Aside0.mk (gS (w := w) hg); have n3_ := n2_; clear HB; have HB := n0_; have BK343 := n1_; have GW343 := n2_; have GE343 := n3_; clear n0_ n1_ n2_ n3_; clear hb hbox hg) | ((with_reducible refine gate_dst (N := 3) rfl ?_); refine bE (N := 3) (cs := #[.string a1_0, .int .i64 a1_1, .int .i64 a1_2, .bool a1_3]) (t := 92) ?_; intro gb344 hg w18 hbox hb; have n0_ := Aside0.mk (kb BK343 hb); have n1_ := Aside0.mk (below_step (w := w) bW hb); have n2_ := Aside0.mk (hbox); have n3_ := Aside0.mk (gS (w := w) hg); have n4_ := n3_; have n5_ := Aside0.mk (nL BK343 hg); have n6_ := Aside0.mk (nG BK343 hg); clear BK343; clear HB; have BK343 := n0_; have HB := n1_; have BK344 := n2_; have GW344 := n3_; have GE344 := n4_; have NB343_344 := n5_; have NB344_343 := n6_; clear n0_ n1_ n2_ n3_ n4_ n5_ n6_; clear hb hbox hg; have hnb19 := NB343_344.out; have hnc19 := NB344_343.out; obtain ⟨hcz20_0, hcz20_1, hcz20_2, hcz20_3⟩ := cz4 BK343; obtain ⟨hfz20_0, hfz20_1, hfz20_2, hfz20_3⟩ := fz4 BK343; obtain ⟨hcz21_0, hcz21_1, hcz21_2, hcz21_3⟩ := cz4 BK344; obtain ⟨hfz21_0, hfz21_1, hfz21_2, hfz21_3⟩ := fz4 BK344))
        go_ret
        exact ⟨rE, bW⟩
    · rw [if_neg c4] at H
      have c4b0 : (a0_1 == a1_1) = false := beq_eq_false_iff_ne.mpr c4
      have c4b1 : (a0_1 != a1_1) = true := bne_iff_ne.mpr c4
      obtain rfl := Option.some.inj H
      go_enter Tryz.func63, Tryz.ntmps63
      go_wp2_with (first | ((with_reducible refine gate_dst (N := 2) rfl ?_); refine bE (N := 2) (cs := #[.string a0_0, .int .i64 a0_1, .int .i64 a0_2, .bool a0_3]) (t := 92) ?_; intro gb343 hg w22 hbox hb; have n0_ := Aside0.mk (below_step (w := w) bW hb); have n1_ := Aside0.mk (hbox); have n2_ := Aside0.mk (gS (w := w) hg); have n3_ := n2_; clear HB; have HB := n0_; have BK343 := n1_; have GW343 := n2_; have GE343 := n3_; clear n0_ n1_ n2_ n3_; clear hb hbox hg) | ((with_reducible refine gate_dst (N := 3) rfl ?_); refine bE (N := 3) (cs := #[.string a1_0, .int .i64 a1_1, .int .i64 a1_2, .bool a1_3]) (t := 92) ?_; intro gb344 hg w23 hbox hb; have n0_ := Aside0.mk (kb BK343 hb); have n1_ := Aside0.mk (below_step (w := w) bW hb); have n2_ := Aside0.mk (hbox); have n3_ := Aside0.mk (gS (w := w) hg); have n4_ := n3_; have n5_ := Aside0.mk (nL BK343 hg); have n6_ := Aside0.mk (nG BK343 hg); clear BK343; clear HB; have BK343 := n0_; have HB := n1_; have BK344 := n2_; have GW344 := n3_; have GE344 := n4_; have NB343_344 := n5_; have NB344_343 := n6_; clear n0_ n1_ n2_ n3_ n4_ n5_ n6_; clear hb hbox hg; have hnb24 := NB343_344.out; have hnc24 := NB344_343.out; obtain ⟨hcz25_0, hcz25_1, hcz25_2, hcz25_3⟩ := cz4 BK343; obtain ⟨hfz25_0, hfz25_1, hfz25_2, hfz25_3⟩ := fz4 BK343; obtain ⟨hcz26_0, hcz26_1, hcz26_2, hcz26_3⟩ := cz4 BK344; obtain ⟨hfz26_0, hfz26_1, hfz26_2, hfz26_3⟩ := fz4 BK344))
      go_ret
      exact ⟨rE, bW⟩
  · rw [if_neg c3] at H
    have c3b0 : (a0_0.toList == a1_0.toList) = false := beq_eq_false_iff_ne.mpr c3
    have c3b1 : (a0_0.toList != a1_0.toList) = true := bne_iff_ne.mpr c3
    obtain rfl := Option.some.inj H
    go_enter Tryz.func63, Tryz.ntmps63
    go_wp2_with (first | ((with_reducible refine gate_dst (N := 2) rfl ?_); refine bE (N := 2) (cs := #[.string a0_0, .int .i64 a0_1, .int .i64 a0_2, .bool a0_3]) (t := 92) ?_; intro gb343 hg w27 hbox hb; have n0_ := Aside0.mk (below_step (w := w) bW hb); have n1_ := Aside0.mk (hbox); have n2_ := Aside0.mk (gS (w := w) hg); have n3_ := n2_; clear HB; have HB := n0_; have BK343 := n1_; have GW343 := n2_; have GE343 := n3_; clear n0_ n1_ n2_ n3_; clear hb hbox hg) | ((with_reducible refine gate_dst (N := 3) rfl ?_); refine bE (N := 3) (cs := #[.string a1_0, .int .i64 a1_1, .int .i64 a1_2, .bool a1_3]) (t := 92) ?_; intro gb344 hg w28 hbox hb; have n0_ := Aside0.mk (kb BK343 hb); have n1_ := Aside0.mk (below_step (w := w) bW hb); have n2_ := Aside0.mk (hbox); have n3_ := Aside0.mk (gS (w := w) hg); have n4_ := n3_; have n5_ := Aside0.mk (nL BK343 hg); have n6_ := Aside0.mk (nG BK343 hg); clear BK343; clear HB; have BK343 := n0_; have HB := n1_; have BK344 := n2_; have GW344 := n3_; have GE344 := n4_; have NB343_344 := n5_; have NB344_343 := n6_; clear n0_ n1_ n2_ n3_ n4_ n5_ n6_; clear hb hbox hg; have hnb29 := NB343_344.out; have hnc29 := NB344_343.out; obtain ⟨hcz30_0, hcz30_1, hcz30_2, hcz30_3⟩ := cz4 BK343; obtain ⟨hfz30_0, hfz30_1, hfz30_2, hfz30_3⟩ := fz4 BK343; obtain ⟨hcz31_0, hcz31_1, hcz31_2, hcz31_3⟩ := cz4 BK344; obtain ⟨hfz31_0, hfz31_1, hfz31_2, hfz31_3⟩ := fz4 BK344))
    go_ret
    exact ⟨rE, bW⟩
end Go.Proofs.YtblejbgkcgajgaaGreat.Q
end

section
namespace Go.Proofs.YtblejbgkcgajgaaGreat.Q
open Go.RowKit Go.Proofs.YtblejbgkcgajgaaGreatW.PrintWords Go.Proofs.YtblejbgkcgajgaaGreatW.PrintLast Go.Proofs.YtblejbgkcgajgaaGreatW.PrintMore
attribute [local go_sem] max2_int min2_int max_two min_two max_three min_three max_four min_four   -- for this text's walks alone
set_option linter.unusedVariables false
set_option linter.unusedSimpArgs false
attribute [local go_sem] bin_leq bin_gtr bin_geq
def laws_eqRefS.l0 : Nat → List (S92) → List (S92) → Int → Option (Bool)
 | 0, _, _, _ => none
 | k + 1, x0, x1, x5 => if x5 < (x0.length : Int) then (if 0 ≤ x5 then (if x5 < (x1.length : Int) then ((laws_eqRef.f ((rd_T92 x0 x5).f0) ((rd_T92 x0 x5).f1) ((rd_T92 x0 x5).f2) ((rd_T92 x0 x5).f3) ((rd_T92 x1 x5).f0) ((rd_T92 x1 x5).f1) ((rd_T92 x1 x5).f2) ((rd_T92 x1 x5).f3)).bind fun t347 => (if t347 = true then (laws_eqRefS.l0 k x0 x1 (wrap64 (x5 + 1))) else (some false))) else (none)) else (none)) else (some true)
def laws_eqRefS.f (k : Nat) (l0 : List (S92)) (l1 : List (S92)) : Option (Bool) := if (l0.length : Int) = (l1.length : Int) then (laws_eqRefS.l0 k l0 l1 0) else (some false)
def laws_eqRefS.T6 : Bool × List (List Nat × List Nat) := (true, [([], []), ([], []), ([0, 1], [0, 1]), ([2], [2]), ([], []), ([], []), ([4, 5], [4, 5]), ([6], [6]), ([3, 7], [3, 7]), ([8], [8])])
def laws_eqRefS.B6 : List Nat := [0, 0, 3, 7, 0, 0, 48, 112, 255, 511]
theorem laws_eqRefS.tab6 : rtab .any (opsOf Tryz.f36 6) = laws_eqRefS.T6 := by kernel_rfl
theorem laws_eqRefS.bits6 : waitsOk laws_eqRefS.T6.2 laws_eqRefS.B6 = true := by kernel_rfl
set_option maxHeartbeats 8000000 in
set_option maxRecDepth 100000 in
theorem laws_eqRefS.calls (k : Nat) (A0 : Option Addr) (c0 : Nat) (l0 : List (S92)) (A1 : Option Addr) (c1 : Nat) (l1 : List (S92)) (r : Bool) (w : World) (hr0 : Kd.C k92 w A0 l0.length l0) (hc0 : l0.length ≤ c0) (hr1 : Kd.C k92 w A1 l1.length l1) (hc1 : l1.length ≤ c1) (h : laws_eqRefS.f k l0 l1 = some r) :
  Calls Tryz.prog 36 #[.slice A0 l0.length c0, .slice A1 l1.length c1] w fun e w' => e = .returned (.bool r) ∧ Below w.heap.size w w' := by
 have hu92 := Tryz.underlying92
 have HR0 := Aside0.mk hr0
 have HC0 := Aside0.mk hc0
 clear hr0 hc0
 have HR1 := Aside0.mk hr1
 have HC1 := Aside0.mk hc1
 clear hr1 hc1
 have HB := Aside0.mk (Below.refl w.heap.size w)
 have H : (if (l0.length : Int) = (l1.length : Int) then (laws_eqRefS.l0 k l0 l1 0) else (some false)) = some r := h
 clear h
 by_cases c3 : (l0.length : Int) = (l1.length : Int)
 ·rw [if_pos c3] at H
  have c3b0 : ((l0.length : Int) == (l1.length : Int)) = true := beq_iff_eq.mpr c3
  have c3b1 : ((l0.length : Int) != (l1.length : Int)) = false := bne_eq_false_iff_eq.mpr c3
  have c3b2 : (l0.length == l1.length) = true := by first | simpa using c3 | (simp at c3 ⊢; omega)
  clear c3
  have H' := Aside0.mk H
  clear H
  go_enter Tryz.func36, Tryz.ntmps36
  go_wp2
  go_loopg [5] k (fun kq v5 w' => ∃ (x5_1 : Int), v5 = .int .i64 x5_1 ∧ Aside0 (laws_eqRefS.l0 kq l0 l1 x5_1 = some r) ∧ Aside0 (kq ≤ k) ∧ Aside0 (Below w.heap.size w w'))
  case atStart => exact ⟨(0), vE, H', ⟨Nat.le_refl _⟩, ⟨bW⟩⟩
  case round =>
   clear H'
   try clear c1
   try clear p2
   try clear c3
   try clear c3b0
   try clear c3b1
   try clear c3b2
   obtain ⟨x5_1, rfl, HA, HK1, HB⟩ := hrel
   cases gk with
   | zero => exact absurd HA.out (by simp [laws_eqRefS.l0])
   | succ k1 =>
    have H := HA.out
    clear HA
    simp only [laws_eqRefS.l0] at H
    by_cases c4 : x5_1 < (l0.length : Int)
    ·rw [if_pos c4] at H
     have c4b0 : decide (x5_1 < (l0.length : Int)) = true := decide_eq_true c4
     clear c4
     by_cases c5 : 0 ≤ x5_1
     ·rw [if_pos c5] at H
      have c5b0 : decide (0 ≤ x5_1) = true := decide_eq_true c5
      clear c5
      by_cases c6 : x5_1 < (l1.length : Int)
      ·rw [if_pos c6] at H
       have c6b0 : decide (x5_1 < (l1.length : Int)) = true := decide_eq_true c6
       clear c6
       replace H := Option.bind_eq_some_iff.mp H
       obtain ⟨t347, A70, H⟩ := H
       replace H : (if t347 = true then (laws_eqRefS.l0 k1 l0 l1 (wrap64 (x5_1 + 1))) else (some false)) = some r := H
       have A7 := Aside0.mk A70
       clear A70
       by_cases c8 : t347 = true
       ·subst c8
        have H1 : (laws_eqRefS.l0 k1 l0 l1 (wrap64 (x5_1 + 1))) = some r := by rw [if_pos rfl] at H; exact H
        clear H
        have H := H1
        clear H1
        have H' := Aside0.mk H
        clear H
        try go_wp2
        have n0_ := Aside0.mk (below_drew1 HB.out)
        clear HB
        have HB := n0_
        clear n0_
        have p345 : 0 ≤ (x5_1 : Int) := odt
        have q345 : x5_1 < (l0.length : Int) := odt
        obtain ⟨ad345, e345, hx345_0, hx345_1, hx345_2, hx345_3⟩ := at_T92 HR0.out x5_1 p345 q345
        have hw345_3 := hx345_3
        have hw345_2 := hx345_2
        have hw345_1 := hx345_1
        have hw345_0 := hx345_0
        cases e345
        replace hx345_0 := (HB.out.cell (World.block_lt_of_cell? w _ hx345_0)).trans hx345_0
        replace hx345_1 := (HB.out.cell (World.block_lt_of_cell? w _ hx345_1)).trans hx345_1
        replace hx345_2 := (HB.out.cell (World.block_lt_of_cell? w _ hx345_2)).trans hx345_2
        replace hx345_3 := (HB.out.cell (World.block_lt_of_cell? w _ hx345_3)).trans hx345_3
        replace p345 := eq_true p345
        replace q345 := eq_true q345
        have p346 : 0 ≤ (x5_1 : Int) := odt
        have q346 : x5_1 < (l1.length : Int) := odt
        obtain ⟨ad346, e346, hx346_0, hx346_1, hx346_2, hx346_3⟩ := at_T92 HR1.out x5_1 p346 q346
        have hw346_3 := hx346_3
        have hw346_2 := hx346_2
        have hw346_1 := hx346_1
        have hw346_0 := hx346_0
        cases e346
        replace hx346_0 := (HB.out.cell (World.block_lt_of_cell? w _ hx346_0)).trans hx346_0
        replace hx346_1 := (HB.out.cell (World.block_lt_of_cell? w _ hx346_1)).trans hx346_1
        replace hx346_2 := (HB.out.cell (World.block_lt_of_cell? w _ hx346_2)).trans hx346_2
        replace hx346_3 := (HB.out.cell (World.block_lt_of_cell? w _ hx346_3)).trans hx346_3
        replace p346 := eq_true p346
        replace q346 := eq_true q346
        refine start_ (n := 10) (S := fun w' => w'.cell? (ad345.add ((x5_1).toNat * 4)) = some (.string ((rd_T92 l0 x5_1).f0)) ∧ w'.cell? ⟨(ad345.add ((x5_1).toNat * 4)).block, (ad345.add ((x5_1).toNat * 4)).off + 1, none⟩ = some (.int .i64 ((rd_T92 l0 x5_1).f1)) ∧ w'.cell? ⟨(ad345.add ((x5_1).toNat * 4)).block, (ad345.add ((x5_1).toNat * 4)).off + 2, none⟩ = some (.int .i64 ((rd_T92 l0 x5_1).f2)) ∧ w'.cell? ⟨(ad345.add ((x5_1).toNat * 4)).block, (ad345.add ((x5_1).toNat * 4)).off + 3, none⟩ = some (.bool ((rd_T92 l0 x5_1).f3)) ∧ w'.cell? (ad346.add ((x5_1).toNat * 4)) = some (.string ((rd_T92 l1 x5_1).f0)) ∧ w'.cell? ⟨(ad346.add ((x5_1).toNat * 4)).block, (ad346.add ((x5_1).toNat * 4)).off + 1, none⟩ = some (.int .i64 ((rd_T92 l1 x5_1).f1)) ∧ w'.cell? ⟨(ad346.add ((x5_1).toNat * 4)).block, (ad346.add ((x5_1).toNat * 4)).off + 2, none⟩ = some (.int .i64 ((rd_T92 l1 x5_1).f2)) ∧ w'.cell? ⟨(ad346.add ((x5_1).toNat * 4)).block, (ad346.add ((x5_1).toNat * 4)).off + 3, none⟩ = some (.bool ((rd_T92 l1 x5_1).f3))) (ds := []) #[false, false, false, false, false, false, false, false, false, false] (by kernel_rfl) rfl rfl ⟨((HB.out.cell (World.block_lt_of_cell? w _ hw345_0)).trans hw345_0), ((HB.out.cell (World.block_lt_of_cell? w _ hw345_1)).trans hw345_1), ((HB.out.cell (World.block_lt_of_cell? w _ hw345_2)).trans hw345_2), ((HB.out.cell (World.block_lt_of_cell? w _ hw345_3)).trans hw345_3), ((HB.out.cell (World.block_lt_of_cell? w _ hw346_0)).trans hw346_0), ((HB.out.cell (World.block_lt_of_cell? w _ hw346_1)).trans hw346_1), ((HB.out.cell (World.block_lt_of_cell? w _ hw346_2)).trans hw346_2), ((HB.out.cell (World.block_lt_of_cell? w _ hw346_3)).trans hw346_3)⟩ (fun hHeld => ?_); refine with_tabW laws_eqRefS.tab6 laws_eqRefS.bits6 (fun HT_ HW_ => ?_)
        generalize wr.drew = w9 at HB hx345_0 hx345_1 hx345_2 hx345_3 hx346_0 hx346_1 hx346_2 hx346_3 hHeld ⊢
        refine pure_ (i := 0) (N := some 17) (v := ?_) (a' := ?_) #[true, false, false, false, false, false, false, false, false, false] rfl rfl (any_of HT_.out (by kernel_rfl)) (fun _ _ _ h => h) (Or.inl ⟨by rfl, ?_⟩) ?_ ?_
        rotate_left
        ·intro w'
         go_simp
         with_reducible rfl
        rotate_left
        ·simp only [Act.put, List.setIfInBounds_toArray, List.set_cons_zero, List.set_cons_succ, i64_w, i32_w]
         rfl
        refine pure_ (i := 1) (N := some 18) (v := ?_) (a' := ?_) #[true, true, false, false, false, false, false, false, false, false] rfl rfl (any_of HT_.out (by kernel_rfl)) (fun _ _ _ h => h) (Or.inl ⟨by rfl, ?_⟩) ?_ ?_
        rotate_left
        ·intro w'
         go_simp
         with_reducible rfl
        rotate_left
        ·simp only [Act.put, List.setIfInBounds_toArray, List.set_cons_zero, List.set_cons_succ, i64_w, i32_w]
         rfl
        refine pure_ (i := 2) (N := some 19) (v := ?_) (a' := ?_) #[true, true, true, false, false, false, false, false, false, false] rfl rfl (any_of HT_.out (by kernel_rfl)) (fun _ _ _ h => h) (Or.inl ⟨by rfl, ?_⟩) ?_ ?_
        rotate_left
        ·intro w'
         go_simp
         with_reducible rfl
        rotate_left
        ·simp only [Act.put, List.setIfInBounds_toArray, List.set_cons_zero, List.set_cons_succ, i64_w, i32_w]
         rfl
        refine pure_ (i := 4) (N := some 21) (v := ?_) (a' := ?_) #[true, true, true, false, true, false, false, false, false, false] rfl rfl (any_of HT_.out (by kernel_rfl)) (fun _ _ _ h => h) (Or.inl ⟨by rfl, ?_⟩) ?_ ?_
        rotate_left
        ·intro w'
         go_simp
         with_reducible rfl
        rotate_left
        ·simp only [Act.put, List.setIfInBounds_toArray, List.set_cons_zero, List.set_cons_succ, i64_w, i32_w]
         rfl
        refine pure_ (i := 5) (N := some 22) (v := ?_) (a' := ?_) #[true, true, true, false, true, true, false, false, false, false] rfl rfl (any_of HT_.out (by kernel_rfl)) (fun _ _ _ h => h) (Or.inl ⟨by rfl, ?_⟩) ?_ ?_
        rotate_left
        ·intro w'
         go_simp
         with_reducible rfl
        rotate_left
        ·simp only [Act.put, List.setIfInBounds_toArray, List.set_cons_zero, List.set_cons_succ, i64_w, i32_w]
         rfl
        refine pure_ (i := 6) (N := some 23) (v := ?_) (a' := ?_) #[true, true, true, false, true, true, true, false, false, false] rfl rfl (any_of HT_.out (by kernel_rfl)) (fun _ _ _ h => h) (Or.inl ⟨by rfl, ?_⟩) ?_ ?_
        rotate_left
        ·intro w'
         go_simp
         with_reducible rfl
        rotate_left
        ·simp only [Act.put, List.setIfInBounds_toArray, List.set_cons_zero, List.set_cons_succ, i64_w, i32_w]
         rfl
        refine take_ (i := 3) (N := some 20) (v := ?_) (a' := ?_) #[true, true, true, true, true, true, true, false, false, false] rfl rfl (take_ofW HT_.out HW_.out (by kernel_rfl)) (fun _ _ _ h => h) (Or.inl ⟨by rfl, ?_⟩) hHeld ?_ ?_
        rotate_left
        ·rintro w' ⟨s0, s1, s2, s3, s4, s5, s6, s7⟩
         go_simp
         with_reducible rfl
        rotate_left
        ·simp only [Act.put, List.setIfInBounds_toArray, List.set_cons_zero, List.set_cons_succ, i64_w, i32_w]
         rfl
        refine take_ (i := 7) (N := some 24) (v := ?_) (a' := ?_) #[true, true, true, true, true, true, true, true, false, false] rfl rfl (take_ofW HT_.out HW_.out (by kernel_rfl)) (fun _ _ _ h => h) (Or.inl ⟨by rfl, ?_⟩) hHeld ?_ ?_
        rotate_left
        ·rintro w' ⟨s0, s1, s2, s3, s4, s5, s6, s7⟩
         go_simp
         with_reducible rfl
        rotate_left
        ·simp only [Act.put, List.setIfInBounds_toArray, List.set_cons_zero, List.set_cons_succ, i64_w, i32_w]
         rfl
        refine one_ (i := 8) (N := some 25) #[true, true, true, true, true, true, true, true, true, false] rfl rfl (one_of HT_.out (by kernel_rfl)) (by decide) (fun K hK => ?_)
        refine goes_ Tryz.func63 (by kernel_rfl) rfl #[.agg #[.string ((rd_T92 l0 x5_1).f0), .int .i64 ((rd_T92 l0 x5_1).f1), .int .i64 ((rd_T92 l0 x5_1).f2), .bool ((rd_T92 l0 x5_1).f3)], .agg #[.string ((rd_T92 l1 x5_1).f0), .int .i64 ((rd_T92 l1 x5_1).f1), .int .i64 ((rd_T92 l1 x5_1).f2), .bool ((rd_T92 l1 x5_1).f3)]] (by rfl) rfl rfl gA ?_
        with_reducible refine (laws_eqRef.calls ((rd_T92 l0 x5_1).f0) ((rd_T92 l0 x5_1).f1) ((rd_T92 l0 x5_1).f2) ((rd_T92 l0 x5_1).f3) ((rd_T92 l1 x5_1).f0) ((rd_T92 l1 x5_1).f1) ((rd_T92 l1 x5_1).f2) ((rd_T92 l1 x5_1).f3) true _ A7.out).mono ?_
        rintro e w10 ⟨rfl, hb⟩
        refine ⟨_, rfl, ?_⟩
        have n0_ := Aside0.mk (below_step (w := w) bW hb)
        clear HB
        have HB := n0_
        clear n0_
        (try clear hb)
        (try clear hb2)
        (try clear hk)
        (try clear hi)
        refine hK.out _ _ ⟨((HB.out.cell (World.block_lt_of_cell? w _ hw345_0)).trans hw345_0), ((HB.out.cell (World.block_lt_of_cell? w _ hw345_1)).trans hw345_1), ((HB.out.cell (World.block_lt_of_cell? w _ hw345_2)).trans hw345_2), ((HB.out.cell (World.block_lt_of_cell? w _ hw345_3)).trans hw345_3), ((HB.out.cell (World.block_lt_of_cell? w _ hw346_0)).trans hw346_0), ((HB.out.cell (World.block_lt_of_cell? w _ hw346_1)).trans hw346_1), ((HB.out.cell (World.block_lt_of_cell? w _ hw346_2)).trans hw346_2), ((HB.out.cell (World.block_lt_of_cell? w _ hw346_3)).trans hw346_3)⟩ (fun hHeld => ?_)
        clear hK K
        refine norm_ (a' := ?_) ?_ ?_
        rotate_left
        ·show Act.put _ (some 25) _ = _
         simp only [Act.put, List.setIfInBounds_toArray, List.set_cons_zero, List.set_cons_succ, i64_w, i32_w]
         rfl
        refine pure_ (i := 9) (N := some 26) (v := ?_) (a' := ?_) #[true, true, true, true, true, true, true, true, true, true] rfl rfl (any_of HT_.out (by kernel_rfl)) (fun _ _ _ h => h) (Or.inl ⟨by rfl, ?_⟩) ?_ ?_
        rotate_left
        ·intro w'
         go_simp
         with_reducible rfl
        rotate_left
        ·simp only [Act.put, List.setIfInBounds_toArray, List.set_cons_zero, List.set_cons_succ, i64_w, i32_w]
         rfl
        refine done_ (done_of HT_.out (by kernel_rfl)) ?_
        try go_wp2
        go_roundg k1
        case measure => have := HK1.out; omega
        case rel => exact ⟨(wrap64 (x5_1 + 1)), vE, H', ⟨by have := HK1.out; omega⟩, ⟨bW⟩⟩
       ·replace c8 := Bool.eq_false_iff.mpr c8
        subst c8
        have H1 : (some false) = some r := by rw [if_neg (show ¬ (false = true) by decide)] at H; exact H
        clear H
        have H := H1
        clear H1
        obtain rfl := Option.some.inj H
        try go_wp2
        have n0_ := Aside0.mk (below_drew1 HB.out)
        clear HB
        have HB := n0_
        clear n0_
        have p345 : 0 ≤ (x5_1 : Int) := odt
        have q345 : x5_1 < (l0.length : Int) := odt
        obtain ⟨ad345, e345, hx345_0, hx345_1, hx345_2, hx345_3⟩ := at_T92 HR0.out x5_1 p345 q345
        have hw345_3 := hx345_3
        have hw345_2 := hx345_2
        have hw345_1 := hx345_1
        have hw345_0 := hx345_0
        cases e345
        replace hx345_0 := (HB.out.cell (World.block_lt_of_cell? w _ hx345_0)).trans hx345_0
        replace hx345_1 := (HB.out.cell (World.block_lt_of_cell? w _ hx345_1)).trans hx345_1
        replace hx345_2 := (HB.out.cell (World.block_lt_of_cell? w _ hx345_2)).trans hx345_2
        replace hx345_3 := (HB.out.cell (World.block_lt_of_cell? w _ hx345_3)).trans hx345_3
        replace p345 := eq_true p345
        replace q345 := eq_true q345
        have p346 : 0 ≤ (x5_1 : Int) := odt
        have q346 : x5_1 < (l1.length : Int) := odt
        obtain ⟨ad346, e346, hx346_0, hx346_1, hx346_2, hx346_3⟩ := at_T92 HR1.out x5_1 p346 q346
        have hw346_3 := hx346_3
        have hw346_2 := hx346_2
        have hw346_1 := hx346_1
        have hw346_0 := hx346_0
        cases e346
        replace hx346_0 := (HB.out.cell (World.block_lt_of_cell? w _ hx346_0)).trans hx346_0
        replace hx346_1 := (HB.out.cell (World.block_lt_of_cell? w _ hx346_1)).trans hx346_1
        replace hx346_2 := (HB.out.cell (World.block_lt_of_cell? w _ hx346_2)).trans hx346_2
        replace hx346_3 := (HB.out.cell (World.block_lt_of_cell? w _ hx346_3)).trans hx346_3
        replace p346 := eq_true p346
        replace q346 := eq_true q346
        refine start_ (n := 10) (S := fun w' => w'.cell? (ad345.add ((x5_1).toNat * 4)) = some (.string ((rd_T92 l0 x5_1).f0)) ∧ w'.cell? ⟨(ad345.add ((x5_1).toNat * 4)).block, (ad345.add ((x5_1).toNat * 4)).off + 1, none⟩ = some (.int .i64 ((rd_T92 l0 x5_1).f1)) ∧ w'.cell? ⟨(ad345.add ((x5_1).toNat * 4)).block, (ad345.add ((x5_1).toNat * 4)).off + 2, none⟩ = some (.int .i64 ((rd_T92 l0 x5_1).f2)) ∧ w'.cell? ⟨(ad345.add ((x5_1).toNat * 4)).block, (ad345.add ((x5_1).toNat * 4)).off + 3, none⟩ = some (.bool ((rd_T92 l0 x5_1).f3)) ∧ w'.cell? (ad346.add ((x5_1).toNat * 4)) = some (.string ((rd_T92 l1 x5_1).f0)) ∧ w'.cell? ⟨(ad346.add ((x5_1).toNat * 4)).block, (ad346.add ((x5_1).toNat * 4)).off + 1, none⟩ = some (.int .i64 ((rd_T92 l1 x5_1).f1)) ∧ w'.cell? ⟨(ad346.add ((x5_1).toNat * 4)).block, (ad346.add ((x5_1).toNat * 4)).off + 2, none⟩ = some (.int .i64 ((rd_T92 l1 x5_1).f2)) ∧ w'.cell? ⟨(ad346.add ((x5_1).toNat * 4)).block, (ad346.add ((x5_1).toNat * 4)).off + 3, none⟩ = some (.bool ((rd_T92 l1 x5_1).f3))) (ds := []) #[false, false, false, false, false, false, false, false, false, false] (by kernel_rfl) rfl rfl ⟨((HB.out.cell (World.block_lt_of_cell? w _ hw345_0)).trans hw345_0), ((HB.out.cell (World.block_lt_of_cell? w _ hw345_1)).trans hw345_1), ((HB.out.cell (World.block_lt_of_cell? w _ hw345_2)).trans hw345_2), ((HB.out.cell (World.block_lt_of_cell? w _ hw345_3)).trans hw345_3), ((HB.out.cell (World.block_lt_of_cell? w _ hw346_0)).trans hw346_0), ((HB.out.cell (World.block_lt_of_cell? w _ hw346_1)).trans hw346_1), ((HB.out.cell (World.block_lt_of_cell? w _ hw346_2)).trans hw346_2), ((HB.out.cell (World.block_lt_of_cell? w _ hw346_3)).trans hw346_3)⟩ (fun hHeld => ?_); refine with_tabW laws_eqRefS.tab6 laws_eqRefS.bits6 (fun HT_ HW_ => ?_)
        generalize wr.drew = w11 at HB hx345_0 hx345_1 hx345_2 hx345_3 hx346_0 hx346_1 hx346_2 hx346_3 hHeld ⊢
        refine pure_ (i := 0) (N := some 17) (v := ?_) (a' := ?_) #[true, false, false, false, false, false, false, false, false, false] rfl rfl (any_of HT_.out (by kernel_rfl)) (fun _ _ _ h => h) (Or.inl ⟨by rfl, ?_⟩) ?_ ?_
        rotate_left
        ·intro w'
         go_simp
         with_reducible rfl
        rotate_left
        ·simp only [Act.put, List.setIfInBounds_toArray, List.set_cons_zero, List.set_cons_succ, i64_w, i32_w]
         rfl
        refine pure_ (i := 1) (N := some 18) (v := ?_) (a' := ?_) #[true, true, false, false, false, false, false, false, false, false] rfl rfl (any_of HT_.out (by kernel_rfl)) (fun _ _ _ h => h) (Or.inl ⟨by rfl, ?_⟩) ?_ ?_
        rotate_left
        ·intro w'
         go_simp
         with_reducible rfl
        rotate_left
        ·simp only [Act.put, List.setIfInBounds_toArray, List.set_cons_zero, List.set_cons_succ, i64_w, i32_w]
         rfl
        refine pure_ (i := 2) (N := some 19) (v := ?_) (a' := ?_) #[true, true, true, false, false, false, false, false, false, false] rfl rfl (any_of HT_.out (by kernel_rfl)) (fun _ _ _ h => h) (Or.inl ⟨by rfl, ?_⟩) ?_ ?_
        rotate_left
        ·intro w'
         go_simp
         with_reducible rfl
        rotate_left
        ·simp only [Act.put, List.setIfInBounds_toArray, List.set_cons_zero, List.set_cons_succ, i64_w, i32_w]
         rfl
        refine pure_ (i := 4) (N := some 21) (v := ?_) (a' := ?_) #[true, true, true, false, true, false, false, false, false, false] rfl rfl (any_of HT_.out (by kernel_rfl)) (fun _ _ _ h => h) (Or.inl ⟨by rfl, ?_⟩) ?_ ?_
        rotate_left
        ·intro w'
         go_simp
         with_reducible rfl
        rotate_left
        ·simp only [Act.put, List.setIfInBounds_toArray, List.set_cons_zero, List.set_cons_succ, i64_w, i32_w]
         rfl
        refine pure_ (i := 5) (N := some 22) (v := ?_) (a' := ?_) #[true, true, true, false, true, true, false, false, false, false] rfl rfl (any_of HT_.out (by kernel_rfl)) (fun _ _ _ h => h) (Or.inl ⟨by rfl, ?_⟩) ?_ ?_
        rotate_left
        ·intro w'
         go_simp
         with_reducible rfl
        rotate_left
        ·simp only [Act.put, List.setIfInBounds_toArray, List.set_cons_zero, List.set_cons_succ, i64_w, i32_w]
         rfl
        refine pure_ (i := 6) (N := some 23) (v := ?_) (a' := ?_) #[true, true, true, false, true, true, true, false, false, false] rfl rfl (any_of HT_.out (by kernel_rfl)) (fun _ _ _ h => h) (Or.inl ⟨by rfl, ?_⟩) ?_ ?_
        rotate_left
        ·intro w'
         go_simp
         with_reducible rfl
        rotate_left
        ·simp only [Act.put, List.setIfInBounds_toArray, List.set_cons_zero, List.set_cons_succ, i64_w, i32_w]
         rfl
        refine take_ (i := 3) (N := some 20) (v := ?_) (a' := ?_) #[true, true, true, true, true, true, true, false, false, false] rfl rfl (take_ofW HT_.out HW_.out (by kernel_rfl)) (fun _ _ _ h => h) (Or.inl ⟨by rfl, ?_⟩) hHeld ?_ ?_
        rotate_left
        ·rintro w' ⟨s0, s1, s2, s3, s4, s5, s6, s7⟩
         go_simp
         with_reducible rfl
        rotate_left
        ·simp only [Act.put, List.setIfInBounds_toArray, List.set_cons_zero, List.set_cons_succ, i64_w, i32_w]
         rfl
        refine take_ (i := 7) (N := some 24) (v := ?_) (a' := ?_) #[true, true, true, true, true, true, true, true, false, false] rfl rfl (take_ofW HT_.out HW_.out (by kernel_rfl)) (fun _ _ _ h => h) (Or.inl ⟨by rfl, ?_⟩) hHeld ?_ ?_
        rotate_left
        ·rintro w' ⟨s0, s1, s2, s3, s4, s5, s6, s7⟩
         go_simp
         with_reducible rfl
        rotate_left
        ·simp only [Act.put, List.setIfInBounds_toArray, List.set_cons_zero, List.set_cons_succ, i64_w, i32_w]
         rfl
        refine one_ (i := 8) (N := some 25) #[true, true, true, true, true, true, true, true, true, false] rfl rfl (one_of HT_.out (by kernel_rfl)) (by decide) (fun K hK => ?_)
        refine goes_ Tryz.func63 (by kernel_rfl) rfl #[.agg #[.string ((rd_T92 l0 x5_1).f0), .int .i64 ((rd_T92 l0 x5_1).f1), .int .i64 ((rd_T92 l0 x5_1).f2), .bool ((rd_T92 l0 x5_1).f3)], .agg #[.string ((rd_T92 l1 x5_1).f0), .int .i64 ((rd_T92 l1 x5_1).f1), .int .i64 ((rd_T92 l1 x5_1).f2), .bool ((rd_T92 l1 x5_1).f3)]] (by rfl) rfl rfl gA ?_
        with_reducible refine (laws_eqRef.calls ((rd_T92 l0 x5_1).f0) ((rd_T92 l0 x5_1).f1) ((rd_T92 l0 x5_1).f2) ((rd_T92 l0 x5_1).f3) ((rd_T92 l1 x5_1).f0) ((rd_T92 l1 x5_1).f1) ((rd_T92 l1 x5_1).f2) ((rd_T92 l1 x5_1).f3) false _ A7.out).mono ?_
        rintro e w12 ⟨rfl, hb⟩
        refine ⟨_, rfl, ?_⟩
        have n0_ := Aside0.mk (below_step (w := w) bW hb)
        clear HB
        have HB := n0_
        clear n0_
        (try clear hb)
        (try clear hb2)
        (try clear hk)
        (try clear hi)
        refine hK.out _ _ ⟨((HB.out.cell (World.block_lt_of_cell? w _ hw345_0)).trans hw345_0), ((HB.out.cell (World.block_lt_of_cell? w _ hw345_1)).trans hw345_1), ((HB.out.cell (World.block_lt_of_cell? w _ hw345_2)).trans hw345_2), ((HB.out.cell (World.block_lt_of_cell? w _ hw345_3)).trans hw345_3), ((HB.out.cell (World.block_lt_of_cell? w _ hw346_0)).trans hw346_0), ((HB.out.cell (World.block_lt_of_cell? w _ hw346_1)).trans hw346_1), ((HB.out.cell (World.block_lt_of_cell? w _ hw346_2)).trans hw346_2), ((HB.out.cell (World.block_lt_of_cell? w _ hw346_3)).trans hw346_3)⟩ (fun hHeld => ?_)
        clear hK K
        refine norm_ (a' := ?_) ?_ ?_
        rotate_left
        ·show Act.put _ (some 25) _ = _
         simp only [Act.put, List.setIfInBounds_toArray, List.set_cons_zero, List.set_cons_succ, i64_w, i32_w]
         rfl
        refine pure_ (i := 9) (N := some 26) (v := ?_) (a' := ?_) #[true, true, true, true, true, true, true, true, true, true] rfl rfl (any_of HT_.out (by kernel_rfl)) (fun _ _ _ h => h) (Or.inl ⟨by rfl, ?_⟩) ?_ ?_
        rotate_left
        ·intro w'
         go_simp
         with_reducible rfl
        rotate_left
        ·simp only [Act.put, List.setIfInBounds_toArray, List.set_cons_zero, List.set_cons_succ, i64_w, i32_w]
         rfl
        refine done_ (done_of HT_.out (by kernel_rfl)) ?_
        try go_wp2
        go_ret
        exact ⟨rE, bW⟩
      ·rw [if_neg c6] at H
       exact absurd H (by simp)
     ·rw [if_neg c5] at H
      exact absurd H (by simp)
    ·rw [if_neg c4] at H
     have c4b0 : decide (x5_1 < (l0.length : Int)) = false := decide_eq_false c4
     clear c4
     obtain rfl := Option.some.inj H
     go_wp2
     go_ret
     exact ⟨rE, bW⟩
 ·rw [if_neg c3] at H
  have c3b0 : ((l0.length : Int) == (l1.length : Int)) = false := beq_eq_false_iff_ne.mpr c3
  have c3b1 : ((l0.length : Int) != (l1.length : Int)) = true := bne_iff_ne.mpr c3
  have c3b2 : (l0.length == l1.length) = false := by first | simpa using c3 | (simp at c3 ⊢; omega)
  obtain rfl := Option.some.inj H
  go_enter Tryz.func36, Tryz.ntmps36
  go_wp2
  go_ret
  exact ⟨rE, bW⟩
end Go.Proofs.YtblejbgkcgajgaaGreat.Q
end
