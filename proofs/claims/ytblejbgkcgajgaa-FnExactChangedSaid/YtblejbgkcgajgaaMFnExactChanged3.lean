/- Parts of the proof of the law FnExactChanged, joined into one text. -/
import Derived.Test.YtblejbgkcgajgaaMFnExactChanged2
section
namespace Go.Proofs.Ytblejbgkcgajgaa.Q
open Go.RowKit Go.Proofs.YtblejbgkcgajgaaW.PrintWords Go.Proofs.YtblejbgkcgajgaaW.PrintLast Go.Proofs.YtblejbgkcgajgaaW.PrintMore
attribute [local go_sem] max2_int min2_int max_two min_two max_three min_three max_four min_four   -- for this text's walks alone
set_option linter.unusedVariables false
set_option linter.unusedSimpArgs false
attribute [local go_sem] bin_leq bin_gtr bin_geq
def laws_markStringS.l0 : Nat → List ByteArray → Int → Int → Option (Int × List ByteArray)
  | 0, _, _, _ => none
  | k + 1, x0, x1, x5 => if x5 < (x0.length : Int) then ((laws_markText.f k x1).bind fun t221 => (if 0 ≤ x5 then (laws_markStringS.l0 k (x0.set (x5 : Int).toNat t221) (wrap64 (x1 + 1)) (wrap64 (x5 + 1))) else (none))) else (some (x1, x0))
def laws_markStringS.f (k : Nat) (l0 : List ByteArray) (a1 : Int) : Option (Int × List ByteArray) := laws_markStringS.l0 k l0 a1 0
set_option maxHeartbeats 8000000 in
set_option maxRecDepth 100000 in
theorem laws_markStringS.calls (k : Nat) (P0_ : Nat → Prop) (u9000_ : Value) (l0 : List ByteArray) (a1 : Int) (r1 : Int) (r2 : List ByteArray) (w0 w : World) (hB : Below w0.heap.size w0 w) (ho0 : Kd.R Kd.string 9 w w0.heap.size P0_ u9000_ l0) (h : laws_markStringS.f k l0 a1 = some (r1, r2)) :
    Calls Try.prog 15 #[u9000_, .int .i64 a1] w fun e w' => e = .returned (.int .i64 r1) ∧ Kd.R Kd.string 9 w' w0.heap.size (fun k_ => (P0_ k_ ∨ w.heap.size ≤ k_)) u9000_ r2 ∧ Below w0.heap.size w0 w' ∧ Kept w w' (fun k_ => P0_ k_) := by
  have HO0 := Aside0.mk (show Kd.R Kd.string 9 w w0.heap.size (fun k_ => (P0_ k_ ∨ w.heap.size ≤ k_)) u9000_ l0 from Kd.R_mono ho0 (fun k_ hk => (.inl hk)))
  have HK := Aside0.mk (Kept.refl w (fun k_ => P0_ k_))
  have HW0 := Aside0.mk hB.size
  have HB := Aside0.mk hB
  clear hB
  have H : (laws_markStringS.l0 k l0 a1 0) = some (r1, r2) := h
  clear h
  have H' := Aside0.mk H
  clear H
  go_enter Try.func15, Try.ntmps15
  go_wp2
  go_loopg [1, 5] k (fun kq v1 v5 w' => ∃ (x0_1 : List ByteArray) (x1_1 : Int) (x5_1 : Int), v1 = .int .i64 x1_1 ∧ v5 = .int .i64 x5_1 ∧ Aside0 (laws_markStringS.l0 kq x0_1 x1_1 x5_1 = some (r1, r2)) ∧ Aside0 (kq ≤ k) ∧ Aside0 (Kd.R Kd.string 9 w' w0.heap.size (fun k_ => (P0_ k_ ∨ w.heap.size ≤ k_)) u9000_ x0_1) ∧ Aside0 (Kept w w' (fun k_ => P0_ k_)) ∧ Aside0 (Below w0.heap.size w0 w'))
  case atStart => exact ⟨(l0), (a1), (0), vE, vE, H', ⟨Nat.le_refl _⟩, ⟨by (with_reducible repeat (first | apply Kd.R_alloc | apply Kd.R_drewN | apply Kd.R_drew)); exact HO0.out⟩, ⟨by repeat (first | (with_reducible first | exact HK.out | apply Kept.alloc | apply Kept.drewN | apply Kept.drew) | exact HK.out)⟩, ⟨bW⟩⟩
  case round =>
    clear H'
    try clear c1
    try clear p2
    obtain ⟨x0_1, x1_1, x5_1, rfl, rfl, HA, HK1, HO_0, HK, HB⟩ := hrel
    cases gk with
    | zero => exact absurd HA.out (by simp [laws_markStringS.l0])
    | succ k1 =>
      have H := HA.out
      clear HA
      simp only [laws_markStringS.l0] at H
      by_cases c3 : x5_1 < (x0_1.length : Int)
      · rw [if_pos c3] at H
        have c3b0 : decide (x5_1 < (x0_1.length : Int)) = true := decide_eq_true c3
        clear c3
        replace H := Option.bind_eq_some_iff.mp H
        obtain ⟨t221, A40, H⟩ := H
        replace H : (if 0 ≤ x5_1 then (laws_markStringS.l0 k1 (x0_1.set (x5_1 : Int).toNat t221) (wrap64 (x1_1 + 1)) (wrap64 (x5_1 + 1))) else (none)) = some (r1, r2) := H
        have A4 := Aside0.mk A40
        clear A40
        by_cases c5 : 0 ≤ x5_1
        · rw [if_pos c5] at H
          have c5b0 : decide (0 ≤ x5_1) = true := decide_eq_true c5
          clear c5
          obtain ⟨y222, hy222⟩ : ∃ y_ : List ByteArray, y_ = (x0_1.set (x5_1 : Int).toNat t221) := ⟨_, rfl⟩
          replace H : (laws_markStringS.l0 k1 y222 (wrap64 (x1_1 + 1)) (wrap64 (x5_1 + 1))) = some (r1, r2) := by first | (rw [hy222]; with_reducible exact H) | (have H2_ := (Option.bind_some _ _).symm.trans H; rw [hy222]; with_reducible exact H2_) | (have H2_ := (Option.bind_some _ _).symm.trans H; with_reducible exact H2_) | with_reducible exact H | (rw [hy222]; exact H) | exact H
          have Ny222 := Aside0.mk hy222
          clear hy222
          have H' := Aside0.mk H
          clear H
          obtain ⟨Ao7, co7, eo7⟩ := Kd.R_slice HO_0.out
          subst eo7
          go_wp2_with (first | ((with_reducible refine gate_callee (f := 40) rfl ?_); refine goesL_ (some 15) rfl rfl Try.func40 (by kernel_rfl) rfl #[.int .i64 x1_1] rfl gA ?_; (with_reducible refine (laws_markText.calls k1 x1_1 t221 _ A4.out).mono ?_); rintro e w8 ⟨rfl, hb⟩; refine ⟨_, rfl, ?_⟩; have n0_ := Aside0.mk (Kd.R_below (pR HO_0) hb); have n1_ := Aside0.mk (Kept.below (S := (fun k_ => P0_ k_)) (by repeat (first | (with_reducible first | exact HK.out | apply Kept.alloc | apply Kept.drewN | apply Kept.drew) | exact HK.out)) hb); have n2_ := Aside0.mk (below_step (w := w0) bW hb); clear HO_0; clear HK; clear HB; have HO_0 := n0_; have HK := n1_; have HB := n2_; clear n0_ n1_ n2_; (try clear hb); (try clear hb2); (try clear hk); (try clear hi); have p6 : 0 ≤ (x5_1 : Int) := odt; have q6 : (x5_1 : Int) < ((x0_1.length : Int) : Int) := odt; obtain ⟨go6, co6, eo6, gb6, gl6, cl6, HG6⟩ := Kd.R_form HO_0.out (by omega); (first | cases eo6 | (injection eo6 with ea_ en_ ec_; (first | subst ea_ | (injection ea_ with ea_; subst ea_)); subst ec_; clear en_)); have GB6 := Aside0.mk gb6; have GG6 := Aside0.mk HG6; clear gb6 gl6 HG6; have HMgo6 := Aside0.mk (show (P0_ go6 ∨ w.heap.size ≤ go6) from (HO_0.out.1 _ rfl)); obtain ⟨hx6_0, hf6_0⟩ := Kd.R_celln (⟨#[]⟩ : ByteArray) HO_0.out (x5_1 : Int) p6 q6; replace p6 := eq_true p6; replace q6 := eq_true q6; obtain ⟨hy9_, hz9_⟩ := Kd.R_celln (⟨#[]⟩ : ByteArray) HO_0.out (x5_1 : Int) (odt) (odt); have HP9 := Kd.R_putg HO_0.out (x5_1 : Int) t221) | ((with_reducible refine gate_store (t := 9) (p := 16) rfl ?_); refine store_event (t := 9) (p := 16) (v := ?vo_w10) (w1 := (w8.setCell ⟨go6, (x5_1 : Int).toNat, none⟩ (.string t221))) ?hg ?ho ?hn ?hr ?_; (case ho => rfl); (case hg => rfl); (case hn => rfl); (case hr => first | (go_simp; done) | (go_simp; rfl)); intro w10 hw; have hg : w8.grownBy w10 (some go6) := (by rw [hw]; exact HP9.2); have hp_ : Kd.R Kd.string 9 w10 w0.heap.size (fun k_ => (P0_ k_ ∨ w.heap.size ≤ k_)) (.slice (some ⟨go6, 0, none⟩) x0_1.length co7) y222 := (by rw [hw, Ny222.out]; exact HP9.1); clear HP9; have n0_ := Aside0.mk (hp_); have n1_ := Aside0.mk ((by rw [hw]; exact below_set (HB.out) GB6.out : Below w0.heap.size w0 w10)); have n2_ := Aside0.mk (Kept.of_grown (S := (fun k_ => P0_ k_)) hg (by repeat (first | (with_reducible first | exact HK.out | apply Kept.alloc | apply Kept.drewN | apply Kept.drew) | exact HK.out)) (fun k_ e_ => (HO_0.out.1 k_ e_))); clear HO_0; clear HB; clear HK; have HO_0 := n0_; have HB := n1_; have HK := n2_; clear n0_ n1_ n2_; clear hg hw hp_))
          go_roundg k1
          case measure => have := HK1.out; omega
          case rel => exact ⟨(y222), (wrap64 (x1_1 + 1)), (wrap64 (x5_1 + 1)), vE, vE, H', ⟨by have := HK1.out; omega⟩, ⟨by (with_reducible repeat (first | apply Kd.R_alloc | apply Kd.R_drewN | apply Kd.R_drew)); exact HO_0.out⟩, ⟨by repeat (first | (with_reducible first | exact HK.out | apply Kept.alloc | apply Kept.drewN | apply Kept.drew) | exact HK.out)⟩, ⟨bW⟩⟩
        · rw [if_neg c5] at H
          exact absurd H (by simp)
      · rw [if_neg c3] at H
        have c3b0 : decide (x5_1 < (x0_1.length : Int)) = false := decide_eq_false c3
        clear c3
        simp only [Option.some.injEq, Prod.mk.injEq] at H
        obtain ⟨rfl, rfl⟩ := H
        obtain ⟨Ao11, co11, eo11⟩ := Kd.R_slice HO_0.out
        subst eo11
        go_wp2
        go_ret
        exact ⟨rE, by (with_reducible repeat (first | apply Kd.R_alloc | apply Kd.R_drewN | apply Kd.R_drew)); exact HO_0.out, by repeat (first | (with_reducible first | exact HB.out | apply below_alloc | apply pw_below_drewN | apply below_drew1) | exact HB.out), by repeat (first | (with_reducible first | exact HK.out | apply Kept.alloc | apply Kept.drewN | apply Kept.drew) | exact HK.out)⟩
end Go.Proofs.Ytblejbgkcgajgaa.Q
end

section
namespace Go.Proofs.Ytblejbgkcgajgaa.Q
open Go.RowKit Go.Proofs.YtblejbgkcgajgaaW.PrintWords Go.Proofs.YtblejbgkcgajgaaW.PrintLast Go.Proofs.YtblejbgkcgajgaaW.PrintMore
attribute [local go_sem] max2_int min2_int max_two min_two max_three min_three max_four min_four   -- for this text's walks alone
set_option linter.unusedVariables false
set_option linter.unusedSimpArgs false
attribute [local go_sem] bin_leq bin_gtr bin_geq
def laws_heldStringS.l0 : Nat → List ByteArray → Int → Int → Option (Int)
  | 0, _, _, _ => none
  | k + 1, x0, x1, x5 => if x5 < (x0.length : Int) then (if 0 ≤ x5 then ((laws_markText.f k x1).bind fun t224 => (if (rdOf ByteArray.empty x0 x5).toList = t224.toList then (laws_heldStringS.l0 k x0 (wrap64 (x1 + 1)) (wrap64 (x5 + 1))) else (some (-1)))) else (none)) else (some x1)
def laws_heldStringS.f (k : Nat) (l0 : List ByteArray) (a1 : Int) : Option (Int) := laws_heldStringS.l0 k l0 a1 0
set_option maxHeartbeats 8000000 in
set_option maxRecDepth 100000 in
theorem laws_heldStringS.calls (k : Nat) (A0 : Option Addr) (c0 : Nat) (l0 : List ByteArray) (a1 : Int) (r : Int) (w : World) (hr0 : Kd.C Kd.string w A0 l0.length l0) (hc0 : l0.length ≤ c0) (h : laws_heldStringS.f k l0 a1 = some r) :
    Calls Try.prog 16 #[.slice A0 l0.length c0, .int .i64 a1] w fun e w' => e = .returned (.int .i64 r) ∧ Below w.heap.size w w' := by
  have HR0 := Aside0.mk hr0
  have HC0 := Aside0.mk hc0
  clear hr0 hc0
  have HB := Aside0.mk (Below.refl w.heap.size w)
  have H : (laws_heldStringS.l0 k l0 a1 0) = some r := h
  clear h
  have H' := Aside0.mk H
  clear H
  go_enter Try.func16, Try.ntmps16
  go_wp2
  go_loopg [1, 5] k (fun kq v1 v5 w' => ∃ (x1_1 : Int) (x5_1 : Int), v1 = .int .i64 x1_1 ∧ v5 = .int .i64 x5_1 ∧ Aside0 (laws_heldStringS.l0 kq l0 x1_1 x5_1 = some r) ∧ Aside0 (kq ≤ k) ∧ Aside0 (Below w.heap.size w w'))
  case atStart => exact ⟨(a1), (0), vE, vE, H', ⟨Nat.le_refl _⟩, ⟨bW⟩⟩
  case round =>
    clear H'
    try clear c1
    try clear p2
    obtain ⟨x1_1, x5_1, rfl, rfl, HA, HK1, HB⟩ := hrel
    cases gk with
    | zero => exact absurd HA.out (by simp [laws_heldStringS.l0])
    | succ k1 =>
      have H := HA.out
      clear HA
      simp only [laws_heldStringS.l0] at H
      by_cases c3 : x5_1 < (l0.length : Int)
      · rw [if_pos c3] at H
        have c3b0 : decide (x5_1 < (l0.length : Int)) = true := decide_eq_true c3
        clear c3
        by_cases c4 : 0 ≤ x5_1
        · rw [if_pos c4] at H
          have c4b0 : decide (0 ≤ x5_1) = true := decide_eq_true c4
          clear c4
          replace H := Option.bind_eq_some_iff.mp H
          obtain ⟨t224, A50, H⟩ := H
          replace H : (if (rdOf ByteArray.empty l0 x5_1).toList = t224.toList then (laws_heldStringS.l0 k1 l0 (wrap64 (x1_1 + 1)) (wrap64 (x5_1 + 1))) else (some (-1))) = some r := H
          have A5 := Aside0.mk A50
          clear A50
          by_cases c6 : (rdOf ByteArray.empty l0 x5_1).toList = t224.toList
          · rw [if_pos c6] at H
            have c6b0 : ((rdOf ByteArray.empty l0 x5_1).toList == t224.toList) = true := beq_iff_eq.mpr c6
            have c6b1 : ((rdOf ByteArray.empty l0 x5_1).toList != t224.toList) = false := bne_eq_false_iff_eq.mpr c6
            clear c6
            have H' := Aside0.mk H
            clear H
            try go_wp2
            have n0_ := Aside0.mk (below_drew1 HB.out)
            clear HB
            have HB := n0_
            clear n0_
            have p223 : 0 ≤ (x5_1 : Int) := odt
            have q223 : x5_1 < (l0.length : Int) := odt
            obtain ⟨ad223, e223, hx223_0⟩ := Kd.at_string HR0.out x5_1 p223 q223
            have hw223_0 := hx223_0
            cases e223
            replace hx223_0 := (HB.out.cell (World.block_lt_of_cell? w _ hx223_0)).trans hx223_0
            replace p223 := eq_true p223
            replace q223 := eq_true q223
            refine start_ (n := 7) (S := fun w' => w'.cell? (ad223.add (x5_1).toNat) = some (.string (rdOf ByteArray.empty l0 x5_1))) (ds := []) #[false, false, false, false, false, false, false] (by kernel_rfl) rfl rfl (((HB.out.cell (World.block_lt_of_cell? w _ hw223_0)).trans hw223_0)) (fun hHeld => ?_)
            generalize wr.drew = w7 at HB hx223_0 hHeld ⊢
            refine pure_ (i := 0) (N := some 12) (v := ?_) (a' := ?_) #[true, false, false, false, false, false, false] rfl rfl (by kernel_rfl) (fun _ _ _ h => h) (Or.inl ⟨by rfl, ?_⟩) ?_ ?_
            rotate_left
            · intro w'
              go_simp
              with_reducible rfl
            rotate_left
            · simp only [Act.put, List.setIfInBounds_toArray, List.set_cons_zero, List.set_cons_succ, i64_w, i32_w]
              rfl
            refine pure_ (i := 1) (N := some 13) (v := ?_) (a' := ?_) #[true, true, false, false, false, false, false] rfl rfl (by kernel_rfl) (fun _ _ _ h => h) (Or.inl ⟨by rfl, ?_⟩) ?_ ?_
            rotate_left
            · intro w'
              go_simp
              with_reducible rfl
            rotate_left
            · simp only [Act.put, List.setIfInBounds_toArray, List.set_cons_zero, List.set_cons_succ, i64_w, i32_w]
              rfl
            refine pure_ (i := 2) (N := some 14) (v := ?_) (a' := ?_) #[true, true, true, false, false, false, false] rfl rfl (by kernel_rfl) (fun _ _ _ h => h) (Or.inl ⟨by rfl, ?_⟩) ?_ ?_
            rotate_left
            · intro w'
              go_simp
              with_reducible rfl
            rotate_left
            · simp only [Act.put, List.setIfInBounds_toArray, List.set_cons_zero, List.set_cons_succ, i64_w, i32_w]
              rfl
            refine pure_ (i := 4) (N := some 16) (v := ?_) (a' := ?_) #[true, true, true, false, true, false, false] rfl rfl (by kernel_rfl) (fun _ _ _ h => h) (Or.inl ⟨by rfl, ?_⟩) ?_ ?_
            rotate_left
            · intro w'
              go_simp
              with_reducible rfl
            rotate_left
            · simp only [Act.put, List.setIfInBounds_toArray, List.set_cons_zero, List.set_cons_succ, i64_w, i32_w]
              rfl
            refine take_ (i := 3) (N := some 15) (v := ?_) (a' := ?_) #[true, true, true, true, true, false, false] rfl rfl (by kernel_rfl) (fun _ _ _ h => h) (Or.inl ⟨by rfl, ?_⟩) hHeld ?_ ?_
            rotate_left
            · intro w' s0
              go_simp
              with_reducible rfl
            rotate_left
            · simp only [Act.put, List.setIfInBounds_toArray, List.set_cons_zero, List.set_cons_succ, i64_w, i32_w]
              rfl
            refine one_ (i := 5) (N := some 17) #[true, true, true, true, true, true, false] rfl rfl (by kernel_rfl) (by decide) (fun K hK => ?_)
            refine goes_ Try.func40 (by kernel_rfl) rfl #[.int .i64 x1_1] (by rfl) rfl rfl gA ?_
            with_reducible refine (laws_markText.calls k1 x1_1 t224 _ A5.out).mono ?_
            rintro e w8 ⟨rfl, hb⟩
            refine ⟨_, rfl, ?_⟩
            have n0_ := Aside0.mk (below_step (w := w) bW hb)
            clear HB
            have HB := n0_
            clear n0_
            (try clear hb)
            (try clear hb2)
            (try clear hk)
            (try clear hi)
            refine hK.out _ _ (((HB.out.cell (World.block_lt_of_cell? w _ hw223_0)).trans hw223_0)) (fun hHeld => ?_)
            clear hK K
            refine norm_ (a' := ?_) ?_ ?_
            rotate_left
            · show Act.put _ (some 17) _ = _
              simp only [Act.put, List.setIfInBounds_toArray, List.set_cons_zero, List.set_cons_succ, i64_w, i32_w]
              rfl
            refine pure_ (i := 6) (N := some 18) (v := ?_) (a' := ?_) #[true, true, true, true, true, true, true] rfl rfl (by kernel_rfl) (fun _ _ _ h => h) (Or.inl ⟨by rfl, ?_⟩) ?_ ?_
            rotate_left
            · intro w'
              go_simp
              with_reducible rfl
            rotate_left
            · simp only [Act.put, List.setIfInBounds_toArray, List.set_cons_zero, List.set_cons_succ, i64_w, i32_w]
              rfl
            refine done_ (by kernel_rfl) ?_
            try go_wp2
            go_roundg k1
            case measure => have := HK1.out; omega
            case rel => exact ⟨(wrap64 (x1_1 + 1)), (wrap64 (x5_1 + 1)), vE, vE, H', ⟨by have := HK1.out; omega⟩, ⟨bW⟩⟩
          · rw [if_neg c6] at H
            have c6b0 : ((rdOf ByteArray.empty l0 x5_1).toList == t224.toList) = false := beq_eq_false_iff_ne.mpr c6
            have c6b1 : ((rdOf ByteArray.empty l0 x5_1).toList != t224.toList) = true := bne_iff_ne.mpr c6
            obtain rfl := Option.some.inj H
            try go_wp2
            have n0_ := Aside0.mk (below_drew1 HB.out)
            clear HB
            have HB := n0_
            clear n0_
            have p223 : 0 ≤ (x5_1 : Int) := odt
            have q223 : x5_1 < (l0.length : Int) := odt
            obtain ⟨ad223, e223, hx223_0⟩ := Kd.at_string HR0.out x5_1 p223 q223
            have hw223_0 := hx223_0
            cases e223
            replace hx223_0 := (HB.out.cell (World.block_lt_of_cell? w _ hx223_0)).trans hx223_0
            replace p223 := eq_true p223
            replace q223 := eq_true q223
            refine start_ (n := 7) (S := fun w' => w'.cell? (ad223.add (x5_1).toNat) = some (.string (rdOf ByteArray.empty l0 x5_1))) (ds := []) #[false, false, false, false, false, false, false] (by kernel_rfl) rfl rfl (((HB.out.cell (World.block_lt_of_cell? w _ hw223_0)).trans hw223_0)) (fun hHeld => ?_)
            generalize wr.drew = w9 at HB hx223_0 hHeld ⊢
            refine pure_ (i := 0) (N := some 12) (v := ?_) (a' := ?_) #[true, false, false, false, false, false, false] rfl rfl (by kernel_rfl) (fun _ _ _ h => h) (Or.inl ⟨by rfl, ?_⟩) ?_ ?_
            rotate_left
            · intro w'
              go_simp
              with_reducible rfl
            rotate_left
            · simp only [Act.put, List.setIfInBounds_toArray, List.set_cons_zero, List.set_cons_succ, i64_w, i32_w]
              rfl
            refine pure_ (i := 1) (N := some 13) (v := ?_) (a' := ?_) #[true, true, false, false, false, false, false] rfl rfl (by kernel_rfl) (fun _ _ _ h => h) (Or.inl ⟨by rfl, ?_⟩) ?_ ?_
            rotate_left
            · intro w'
              go_simp
              with_reducible rfl
            rotate_left
            · simp only [Act.put, List.setIfInBounds_toArray, List.set_cons_zero, List.set_cons_succ, i64_w, i32_w]
              rfl
            refine pure_ (i := 2) (N := some 14) (v := ?_) (a' := ?_) #[true, true, true, false, false, false, false] rfl rfl (by kernel_rfl) (fun _ _ _ h => h) (Or.inl ⟨by rfl, ?_⟩) ?_ ?_
            rotate_left
            · intro w'
              go_simp
              with_reducible rfl
            rotate_left
            · simp only [Act.put, List.setIfInBounds_toArray, List.set_cons_zero, List.set_cons_succ, i64_w, i32_w]
              rfl
            refine pure_ (i := 4) (N := some 16) (v := ?_) (a' := ?_) #[true, true, true, false, true, false, false] rfl rfl (by kernel_rfl) (fun _ _ _ h => h) (Or.inl ⟨by rfl, ?_⟩) ?_ ?_
            rotate_left
            · intro w'
              go_simp
              with_reducible rfl
            rotate_left
            · simp only [Act.put, List.setIfInBounds_toArray, List.set_cons_zero, List.set_cons_succ, i64_w, i32_w]
              rfl
            refine take_ (i := 3) (N := some 15) (v := ?_) (a' := ?_) #[true, true, true, true, true, false, false] rfl rfl (by kernel_rfl) (fun _ _ _ h => h) (Or.inl ⟨by rfl, ?_⟩) hHeld ?_ ?_
            rotate_left
            · intro w' s0
              go_simp
              with_reducible rfl
            rotate_left
            · simp only [Act.put, List.setIfInBounds_toArray, List.set_cons_zero, List.set_cons_succ, i64_w, i32_w]
              rfl
            refine one_ (i := 5) (N := some 17) #[true, true, true, true, true, true, false] rfl rfl (by kernel_rfl) (by decide) (fun K hK => ?_)
            refine goes_ Try.func40 (by kernel_rfl) rfl #[.int .i64 x1_1] (by rfl) rfl rfl gA ?_
            with_reducible refine (laws_markText.calls k1 x1_1 t224 _ A5.out).mono ?_
            rintro e w10 ⟨rfl, hb⟩
            refine ⟨_, rfl, ?_⟩
            have n0_ := Aside0.mk (below_step (w := w) bW hb)
            clear HB
            have HB := n0_
            clear n0_
            (try clear hb)
            (try clear hb2)
            (try clear hk)
            (try clear hi)
            refine hK.out _ _ (((HB.out.cell (World.block_lt_of_cell? w _ hw223_0)).trans hw223_0)) (fun hHeld => ?_)
            clear hK K
            refine norm_ (a' := ?_) ?_ ?_
            rotate_left
            · show Act.put _ (some 17) _ = _
              simp only [Act.put, List.setIfInBounds_toArray, List.set_cons_zero, List.set_cons_succ, i64_w, i32_w]
              rfl
            refine pure_ (i := 6) (N := some 18) (v := ?_) (a' := ?_) #[true, true, true, true, true, true, true] rfl rfl (by kernel_rfl) (fun _ _ _ h => h) (Or.inl ⟨by rfl, ?_⟩) ?_ ?_
            rotate_left
            · intro w'
              go_simp
              with_reducible rfl
            rotate_left
            · simp only [Act.put, List.setIfInBounds_toArray, List.set_cons_zero, List.set_cons_succ, i64_w, i32_w]
              rfl
            refine done_ (by kernel_rfl) ?_
            try go_wp2
            go_ret
            exact ⟨rE, bW⟩
        · rw [if_neg c4] at H
          exact absurd H (by simp)
      · rw [if_neg c3] at H
        have c3b0 : decide (x5_1 < (l0.length : Int)) = false := decide_eq_false c3
        clear c3
        obtain rfl := Option.some.inj H
        go_wp2
        go_ret
        exact ⟨rE, bW⟩
end Go.Proofs.Ytblejbgkcgajgaa.Q
end

section
namespace Go.Proofs.Ytblejbgkcgajgaa.Q
open Go.RowKit Go.Proofs.YtblejbgkcgajgaaW.PrintWords Go.Proofs.YtblejbgkcgajgaaW.PrintLast Go.Proofs.YtblejbgkcgajgaaW.PrintMore
attribute [local go_sem] max2_int min2_int max_two min_two max_three min_three max_four min_four   -- for this text's walks alone
set_option linter.unusedVariables false
set_option linter.unusedSimpArgs false
attribute [local go_sem] bin_leq bin_gtr bin_geq
mutual
def laws_FnExactChanged.j0 : Nat → List (S51) → List (S51) → List ByteArray → Int → List (S55) → List (S55) → List ByteArray → Int → Bool → Option (Bool)
  | 0, _, _, _, _, _, _, _, _, _ => none
  | k + 1, x0, x1, x6, x7, x8, x9, x10, x11, x53 => if x53 = true then (some false) else ((laws_toEntryS.f k x0).bind fun t248 => ((laws_eqEntryS.f k x8 t248).bind fun t251 => (if t251 = true then ((laws_toEntryS.f k x1).bind fun t252 => ((laws_eqEntryS.f k x9 t252).bind fun t255 => (if t255 = true then ((laws_markEntryS.f k x8 1).bind fun bt256 => ((laws_markEntryS.f k x9 bt256.1).bind fun bt258 => (if bt258.1 < 0 then (laws_FnExactChanged.j1 k x0 x1 x6 x7 x10 true) else ((laws_eqStringS.f k x10 x6).bind fun t260 => (if t260 = true then (laws_FnExactChanged.j1 k x0 x1 x6 x7 x10 (x11 != x7)) else (laws_FnExactChanged.j1 k x0 x1 x6 x7 x10 true)))))) else (some false)))) else (some false))))
def laws_FnExactChanged.j1 : Nat → List (S51) → List (S51) → List ByteArray → Int → List ByteArray → Bool → Option (Bool)
  | 0, _, _, _, _, _, _ => none
  | k + 1, x0, x1, x6, x7, x10, x82 => if x82 = true then (some false) else ((laws_markStringS.f k x10 1).bind fun bt261 => ((laws_heldStringS.f k bt261.2 1).bind fun t263 => (if t263 < 0 then (some false) else (if t263 = bt261.1 then ((laws_toEntryS.f k x0).bind fun t264 => ((laws_toEntryS.f k x1).bind fun t267 => ((impl_Changed.f k t264 t267).bind fun bt270 => ((laws_eqStringS.f k bt270.1 x6).bind fun t274 => (if t274 = true then (laws_FnExactChanged.j2 k bt261.2 bt261.1 (bt270.2 != x7)) else (laws_FnExactChanged.j2 k bt261.2 bt261.1 true)))))) else (some false)))))
def laws_FnExactChanged.j2 : Nat → List ByteArray → Int → Bool → Option (Bool)
  | 0, _, _, _ => none
  | k + 1, x10, x13, x110 => if x110 = true then (some false) else ((laws_heldStringS.f k x10 1).bind fun t275 => (if t275 < 0 then (some false) else (if t275 = x13 then (some true) else (some false))))
end
def laws_FnExactChanged.f (k : Nat) (l0 : List (S51)) (l1 : List (S51)) : Option (Bool) := (laws_szEntryS.f k l0 1048576).bind fun t225 => (if t225 < 0 then (some true) else ((laws_szEntryS.f k l1 t225).bind fun t226 => (if t226 < 0 then (some true) else ((laws_toEntryS.f k l0).bind fun t227 => ((laws_toEntryS.f k l1).bind fun t230 => ((spec_Changed.f k t227 t230).bind fun bt233 => ((laws_toEntryS.f k l0).bind fun t237 => ((laws_toEntryS.f k l1).bind fun t240 => ((impl_Changed.f k t237 t240).bind fun bt243 => ((laws_eqStringS.f k bt243.1 bt233.1).bind fun t247 => (if t247 = true then (laws_FnExactChanged.j0 k l0 l1 bt233.1 bt233.2 t237 t240 bt243.1 bt243.2 (bt243.2 != bt233.2)) else (laws_FnExactChanged.j0 k l0 l1 bt233.1 bt233.2 t237 t240 bt243.1 bt243.2 true))))))))))))
set_option maxHeartbeats 8000000 in
set_option maxRecDepth 100000 in
theorem laws_FnExactChanged.calls (k : Nat) (A0 : Option Addr) (c0 : Nat) (l0 : List (S51)) (A1 : Option Addr) (c1 : Nat) (l1 : List (S51)) (w : World) (hr0 : Kd.C k51 w A0 l0.length l0) (hc0 : l0.length ≤ c0) (hr1 : Kd.C k51 w A1 l1.length l1) (hc1 : l1.length ≤ c1) (h : laws_FnExactChanged.f k l0 l1 = some true) :
    Calls Try.prog 3 #[.slice A0 l0.length c0, .slice A1 l1.length c1] w fun e w' => e = .returned (.bool true) ∧ Below w.heap.size w w' := by
  have HR0 := Aside0.mk hr0
  have HC0 := Aside0.mk hc0
  clear hr0 hc0
  have HR1 := Aside0.mk hr1
  have HC1 := Aside0.mk hc1
  clear hr1 hc1
  have HB := Aside0.mk (Below.refl w.heap.size w)
  have H : ((laws_szEntryS.f k l0 1048576).bind fun t225 => (if t225 < 0 then (some true) else ((laws_szEntryS.f k l1 t225).bind fun t226 => (if t226 < 0 then (some true) else ((laws_toEntryS.f k l0).bind fun t227 => ((laws_toEntryS.f k l1).bind fun t230 => ((spec_Changed.f k t227 t230).bind fun bt233 => ((laws_toEntryS.f k l0).bind fun t237 => ((laws_toEntryS.f k l1).bind fun t240 => ((impl_Changed.f k t237 t240).bind fun bt243 => ((laws_eqStringS.f k bt243.1 bt233.1).bind fun t247 => (if t247 = true then (laws_FnExactChanged.j0 k l0 l1 bt233.1 bt233.2 t237 t240 bt243.1 bt243.2 (bt243.2 != bt233.2)) else (laws_FnExactChanged.j0 k l0 l1 bt233.1 bt233.2 t237 t240 bt243.1 bt243.2 true))))))))))))) = some true := h
  clear h
  replace H := Option.bind_eq_some_iff.mp H
  obtain ⟨t225, A30, H⟩ := H
  replace H : (if t225 < 0 then (some true) else ((laws_szEntryS.f k l1 t225).bind fun t226 => (if t226 < 0 then (some true) else ((laws_toEntryS.f k l0).bind fun t227 => ((laws_toEntryS.f k l1).bind fun t230 => ((spec_Changed.f k t227 t230).bind fun bt233 => ((laws_toEntryS.f k l0).bind fun t237 => ((laws_toEntryS.f k l1).bind fun t240 => ((impl_Changed.f k t237 t240).bind fun bt243 => ((laws_eqStringS.f k bt243.1 bt233.1).bind fun t247 => (if t247 = true then (laws_FnExactChanged.j0 k l0 l1 bt233.1 bt233.2 t237 t240 bt243.1 bt243.2 (bt243.2 != bt233.2)) else (laws_FnExactChanged.j0 k l0 l1 bt233.1 bt233.2 t237 t240 bt243.1 bt243.2 true)))))))))))) = some true := H
  have A3 := Aside0.mk A30
  clear A30
  by_cases c4 : t225 < 0
  · rw [if_pos c4] at H
    have c4b0 : decide (t225 < 0) = true := decide_eq_true c4
    clear c4
    clear H
    go_enter Try.func3, Try.ntmps3
    go_wp2_with (first | ((with_reducible refine gate_callee (f := 8) rfl ?_); refine goesL_ (some 19) rfl rfl Try.func8 (by kernel_rfl) rfl #[.slice A0 l0.length c0, .int .i64 1048576] rfl gA ?_; (with_reducible refine (laws_szEntryS.calls k _ _ l0 1048576 t225 _ ?side1 ?side2 A3.out).mono ?_); (case side1 => exact cN HR0); (case side2 => exact HC0.out); rintro e w5 ⟨rfl, hb⟩; refine ⟨_, rfl, ?_⟩; have n0_ := Aside0.mk (below_step (w := w) bW hb); clear HB; have HB := n0_; clear n0_; (try clear hb); (try clear hb2); (try clear hk); (try clear hi)))
    go_ret
    exact ⟨rE, bW⟩
  · rw [if_neg c4] at H
    have c4b0 : decide (t225 < 0) = false := decide_eq_false c4
    clear c4
    replace H := Option.bind_eq_some_iff.mp H
    obtain ⟨t226, A60, H⟩ := H
    replace H : (if t226 < 0 then (some true) else ((laws_toEntryS.f k l0).bind fun t227 => ((laws_toEntryS.f k l1).bind fun t230 => ((spec_Changed.f k t227 t230).bind fun bt233 => ((laws_toEntryS.f k l0).bind fun t237 => ((laws_toEntryS.f k l1).bind fun t240 => ((impl_Changed.f k t237 t240).bind fun bt243 => ((laws_eqStringS.f k bt243.1 bt233.1).bind fun t247 => (if t247 = true then (laws_FnExactChanged.j0 k l0 l1 bt233.1 bt233.2 t237 t240 bt243.1 bt243.2 (bt243.2 != bt233.2)) else (laws_FnExactChanged.j0 k l0 l1 bt233.1 bt233.2 t237 t240 bt243.1 bt243.2 true)))))))))) = some true := H
    have A6 := Aside0.mk A60
    clear A60
    by_cases c7 : t226 < 0
    · rw [if_pos c7] at H
      have c7b0 : decide (t226 < 0) = true := decide_eq_true c7
      clear c7
      clear H
      go_enter Try.func3, Try.ntmps3
      go_wp2_with (first | ((with_reducible refine gate_callee (f := 8) rfl ?_); refine goesL_ (some 19) rfl rfl Try.func8 (by kernel_rfl) rfl #[.slice A0 l0.length c0, .int .i64 1048576] rfl gA ?_; (with_reducible refine (laws_szEntryS.calls k _ _ l0 1048576 t225 _ ?side1 ?side2 A3.out).mono ?_); (case side1 => exact cN HR0); (case side2 => exact HC0.out); rintro e w8 ⟨rfl, hb⟩; refine ⟨_, rfl, ?_⟩; have n0_ := Aside0.mk (below_step (w := w) bW hb); clear HB; have HB := n0_; clear n0_; (try clear hb); (try clear hb2); (try clear hk); (try clear hi)) | ((with_reducible refine gate_callee (f := 8) rfl ?_); refine goesL_ (some 24) rfl rfl Try.func8 (by kernel_rfl) rfl #[.slice A1 l1.length c1, .int .i64 t225] rfl gA ?_; (with_reducible refine (laws_szEntryS.calls k _ _ l1 t225 t226 _ ?side1 ?side2 A6.out).mono ?_); (case side1 => exact cB HR1); (case side2 => exact HC1.out); rintro e w9 ⟨rfl, hb⟩; refine ⟨_, rfl, ?_⟩; have n0_ := Aside0.mk (below_step (w := w) bW hb); clear HB; have HB := n0_; clear n0_; (try clear hb); (try clear hb2); (try clear hk); (try clear hi)))
      go_ret
      exact ⟨rE, bW⟩
    · rw [if_neg c7] at H
      have c7b0 : decide (t226 < 0) = false := decide_eq_false c7
      clear c7
      replace H := Option.bind_eq_some_iff.mp H
      obtain ⟨t227, A100, H⟩ := H
      replace H : ((laws_toEntryS.f k l1).bind fun t230 => ((spec_Changed.f k t227 t230).bind fun bt233 => ((laws_toEntryS.f k l0).bind fun t237 => ((laws_toEntryS.f k l1).bind fun t240 => ((impl_Changed.f k t237 t240).bind fun bt243 => ((laws_eqStringS.f k bt243.1 bt233.1).bind fun t247 => (if t247 = true then (laws_FnExactChanged.j0 k l0 l1 bt233.1 bt233.2 t237 t240 bt243.1 bt243.2 (bt243.2 != bt233.2)) else (laws_FnExactChanged.j0 k l0 l1 bt233.1 bt233.2 t237 t240 bt243.1 bt243.2 true)))))))) = some true := H
      have A10 := Aside0.mk A100
      clear A100
      replace H := Option.bind_eq_some_iff.mp H
      obtain ⟨t230, A110, H⟩ := H
      replace H : ((spec_Changed.f k t227 t230).bind fun bt233 => ((laws_toEntryS.f k l0).bind fun t237 => ((laws_toEntryS.f k l1).bind fun t240 => ((impl_Changed.f k t237 t240).bind fun bt243 => ((laws_eqStringS.f k bt243.1 bt233.1).bind fun t247 => (if t247 = true then (laws_FnExactChanged.j0 k l0 l1 bt233.1 bt233.2 t237 t240 bt243.1 bt243.2 (bt243.2 != bt233.2)) else (laws_FnExactChanged.j0 k l0 l1 bt233.1 bt233.2 t237 t240 bt243.1 bt243.2 true))))))) = some true := H
      have A11 := Aside0.mk A110
      clear A110
      replace H := Option.bind_eq_some_iff.mp H
      obtain ⟨⟨t233, t234⟩, A120, H⟩ := H
      replace H : ((laws_toEntryS.f k l0).bind fun t237 => ((laws_toEntryS.f k l1).bind fun t240 => ((impl_Changed.f k t237 t240).bind fun bt243 => ((laws_eqStringS.f k bt243.1 t233).bind fun t247 => (if t247 = true then (laws_FnExactChanged.j0 k l0 l1 t233 t234 t237 t240 bt243.1 bt243.2 (bt243.2 != t234)) else (laws_FnExactChanged.j0 k l0 l1 t233 t234 t237 t240 bt243.1 bt243.2 true)))))) = some true := H
      have A12 := Aside0.mk A120
      clear A120
      replace H := Option.bind_eq_some_iff.mp H
      obtain ⟨t237, A130, H⟩ := H
      replace H : ((laws_toEntryS.f k l1).bind fun t240 => ((impl_Changed.f k t237 t240).bind fun bt243 => ((laws_eqStringS.f k bt243.1 t233).bind fun t247 => (if t247 = true then (laws_FnExactChanged.j0 k l0 l1 t233 t234 t237 t240 bt243.1 bt243.2 (bt243.2 != t234)) else (laws_FnExactChanged.j0 k l0 l1 t233 t234 t237 t240 bt243.1 bt243.2 true))))) = some true := H
      have A13 := Aside0.mk A130
      clear A130
      replace H := Option.bind_eq_some_iff.mp H
      obtain ⟨t240, A140, H⟩ := H
      replace H : ((impl_Changed.f k t237 t240).bind fun bt243 => ((laws_eqStringS.f k bt243.1 t233).bind fun t247 => (if t247 = true then (laws_FnExactChanged.j0 k l0 l1 t233 t234 t237 t240 bt243.1 bt243.2 (bt243.2 != t234)) else (laws_FnExactChanged.j0 k l0 l1 t233 t234 t237 t240 bt243.1 bt243.2 true)))) = some true := H
      have A14 := Aside0.mk A140
      clear A140
      replace H := Option.bind_eq_some_iff.mp H
      obtain ⟨⟨t243, t246⟩, A150, H⟩ := H
      replace H : ((laws_eqStringS.f k t243 t233).bind fun t247 => (if t247 = true then (laws_FnExactChanged.j0 k l0 l1 t233 t234 t237 t240 t243 t246 (t246 != t234)) else (laws_FnExactChanged.j0 k l0 l1 t233 t234 t237 t240 t243 t246 true))) = some true := H
      have A15 := Aside0.mk A150
      clear A150
      have HC16 := Aside0.mk H
      clear H
      go_enter Try.func3, Try.ntmps3
      go_upto_region 12 with (first | ((with_reducible refine gate_callee (f := 8) rfl ?_); refine goesL_ (some 19) rfl rfl Try.func8 (by kernel_rfl) rfl #[.slice A0 l0.length c0, .int .i64 1048576] rfl gA ?_; (with_reducible refine (laws_szEntryS.calls k _ _ l0 1048576 t225 _ ?side1 ?side2 A3.out).mono ?_); (case side1 => exact cN HR0); (case side2 => exact HC0.out); rintro e w17 ⟨rfl, hb⟩; refine ⟨_, rfl, ?_⟩; have n0_ := Aside0.mk (below_step (w := w) bW hb); clear HB; have HB := n0_; clear n0_; (try clear hb); (try clear hb2); (try clear hk); (try clear hi)) | ((with_reducible refine gate_callee (f := 8) rfl ?_); refine goesL_ (some 24) rfl rfl Try.func8 (by kernel_rfl) rfl #[.slice A1 l1.length c1, .int .i64 t225] rfl gA ?_; (with_reducible refine (laws_szEntryS.calls k _ _ l1 t225 t226 _ ?side1 ?side2 A6.out).mono ?_); (case side1 => exact cB HR1); (case side2 => exact HC1.out); rintro e w18 ⟨rfl, hb⟩; refine ⟨_, rfl, ?_⟩; have n0_ := Aside0.mk (below_step (w := w) bW hb); clear HB; have HB := n0_; clear n0_; (try clear hb); (try clear hb2); (try clear hk); (try clear hi)) | ((with_reducible refine gate_callee (f := 10) rfl ?_); refine goesL_ (some 29) rfl rfl Try.func10 (by kernel_rfl) rfl #[.slice A0 l0.length c0] rfl gA ?_; (with_reducible refine (laws_toEntryS.calls k _ _ l0 t227 _ ?side1 ?side2 A10.out).mono ?_); (case side1 => exact cB HR0); (case side2 => exact HC0.out); rintro e w19 ⟨v228, rfl, ho0, hb⟩; refine ⟨_, rfl, ?_⟩; have n0_ := Aside0.mk (Kd.R_lower ho0 (below_size (w := w) bW)); have n1_ := Aside0.mk (below_step (w := w) bW hb); clear HB; have HO229 := n0_; have HB := n1_; clear n0_ n1_; (try clear hb); (try clear hb2); (try clear hk); (try clear hi); (try clear ho0)) | ((with_reducible refine gate_callee (f := 10) rfl ?_); refine goesL_ (some 31) rfl rfl Try.func10 (by kernel_rfl) rfl #[.slice A1 l1.length c1] rfl gA ?_; (with_reducible refine (laws_toEntryS.calls k _ _ l1 t230 _ ?side1 ?side2 A11.out).mono ?_); (case side1 => exact cB HR1); (case side2 => exact HC1.out); rintro e w20 ⟨v231, rfl, ho0, hb⟩; refine ⟨_, rfl, ?_⟩; have n0_ := Aside0.mk (Kd.R_elder' (pR HO229) (Kd.R_base ho0) hb); have n1_ := Aside0.mk (Kd.R_lower (Kd.R_new' ho0 (Kd.R_lt (pR HO229))) (below_size (w := w) bW)); have n2_ := Aside0.mk (below_step (w := w) bW hb); clear HO229; clear HB; have HO229 := n0_; have HO232 := n1_; have HB := n2_; clear n0_ n1_ n2_; (try clear hb); (try clear hb2); (try clear hk); (try clear hi); (try clear ho0); obtain ⟨Ao21, co21, eo21⟩ := Kd.R_slice HO229.out; subst eo21; obtain ⟨Ao22, co22, eo22⟩ := Kd.R_slice HO232.out; subst eo22) | ((with_reducible refine gate_callee (f := 9) rfl ?_); refine goesL_ (some 32) rfl rfl Try.func9 (by kernel_rfl) rfl #[.slice Ao21 t227.length co21, .slice Ao22 t230.length co22] rfl gA ?_; (with_reducible refine (spec_Changed.calls k _ _ t227 _ _ t230 t233 t234 _ ?side1 ?side2 ?side3 ?side4 A12.out).mono ?_); (case side1 => repeat (first | exact (Kd.R_reads' HO229.out).2.2 | (with_reducible refine Kd.C_alloc ?_ _) | (with_reducible refine Kd.C_drewN ?_ _) | (with_reducible refine Kd.C_drew ?_))); (case side2 => exact (Kd.R_reads' HO229.out).2.1); (case side3 => repeat (first | exact (Kd.R_reads' HO232.out).2.2 | (with_reducible refine Kd.C_alloc ?_ _) | (with_reducible refine Kd.C_drewN ?_ _) | (with_reducible refine Kd.C_drew ?_))); (case side4 => exact (Kd.R_reads' HO232.out).2.1); rintro e w23 ⟨v235, rfl, ho0, hb⟩; refine ⟨_, rfl, ?_⟩; have n0_ := Aside0.mk (Kd.R_below (pR HO229) hb); have n1_ := Aside0.mk (Kd.R_below (pR HO232) hb); have n2_ := Aside0.mk (Kd.R_lower ho0 (below_size (w := w) bW)); have n3_ := Aside0.mk (below_step (w := w) bW hb); clear HO229; clear HO232; clear HB; have HO229 := n0_; have HO232 := n1_; have HO236 := n2_; have HB := n3_; clear n0_ n1_ n2_ n3_; (try clear hb); (try clear hb2); (try clear hk); (try clear hi); (try clear ho0)) | ((with_reducible refine gate_callee (f := 10) rfl ?_); refine goesL_ (some 36) rfl rfl Try.func10 (by kernel_rfl) rfl #[.slice A0 l0.length c0] rfl gA ?_; (with_reducible refine (laws_toEntryS.calls k _ _ l0 t237 _ ?side1 ?side2 A13.out).mono ?_); (case side1 => exact cB HR0); (case side2 => exact HC0.out); rintro e w24 ⟨v238, rfl, ho0, hb⟩; refine ⟨_, rfl, ?_⟩; have n0_ := Aside0.mk (Kd.R_elder' (pR HO229) (Kd.R_base ho0) hb); have n1_ := Aside0.mk (Kd.R_elder' (pR HO232) (Kd.R_base ho0) hb); have n2_ := Aside0.mk (Kd.R_below (pR HO236) hb); have n3_ := Aside0.mk (Kd.R_lower (Kd.R_new' (Kd.R_new' ho0 (Kd.R_lt (pR HO229))) (Kd.R_lt (pR HO232))) (below_size (w := w) bW)); have n4_ := Aside0.mk (below_step (w := w) bW hb); clear HO229; clear HO232; clear HO236; clear HB; have HO229 := n0_; have HO232 := n1_; have HO236 := n2_; have HO239 := n3_; have HB := n4_; clear n0_ n1_ n2_ n3_ n4_; (try clear hb); (try clear hb2); (try clear hk); (try clear hi); (try clear ho0)) | ((with_reducible refine gate_callee (f := 10) rfl ?_); refine goesL_ (some 38) rfl rfl Try.func10 (by kernel_rfl) rfl #[.slice A1 l1.length c1] rfl gA ?_; (with_reducible refine (laws_toEntryS.calls k _ _ l1 t240 _ ?side1 ?side2 A14.out).mono ?_); (case side1 => exact cB HR1); (case side2 => exact HC1.out); rintro e w25 ⟨v241, rfl, ho0, hb⟩; refine ⟨_, rfl, ?_⟩; have n0_ := Aside0.mk (Kd.R_elder' (pR HO229) (Kd.R_base ho0) hb); have n1_ := Aside0.mk (Kd.R_elder' (pR HO232) (Kd.R_base ho0) hb); have n2_ := Aside0.mk (Kd.R_below (pR HO236) hb); have n3_ := Aside0.mk (Kd.R_elder' (pR HO239) (Kd.R_base ho0) hb); have n4_ := Aside0.mk (Kd.R_lower (Kd.R_new' (Kd.R_new' (Kd.R_new' ho0 (Kd.R_lt (pR HO229))) (Kd.R_lt (pR HO232))) (Kd.R_lt (pR HO239))) (below_size (w := w) bW)); have n5_ := Aside0.mk (below_step (w := w) bW hb); clear HO229; clear HO232; clear HO236; clear HO239; clear HB; have HO229 := n0_; have HO232 := n1_; have HO236 := n2_; have HO239 := n3_; have HO242 := n4_; have HB := n5_; clear n0_ n1_ n2_ n3_ n4_ n5_; (try clear hb); (try clear hb2); (try clear hk); (try clear hi); (try clear ho0); obtain ⟨Ao26, co26, eo26⟩ := Kd.R_slice HO239.out; subst eo26; obtain ⟨Ao27, co27, eo27⟩ := Kd.R_slice HO242.out; subst eo27) | ((with_reducible refine gate_callee (f := 11) rfl ?_); refine goesL_ (some 42) rfl rfl Try.func11 (by kernel_rfl) rfl #[.slice Ao26 t237.length co26, .slice Ao27 t240.length co27] rfl gA ?_; (with_reducible refine (impl_Changed.calls k (fun k_ => some k_ = (.slice Ao26 t237.length co26 : Value).ownBlock) _ _ t237 (fun k_ => some k_ = (.slice Ao27 t240.length co27 : Value).ownBlock) _ _ t240 t243 t246 _ ?side1 ?side2 A15.out).mono ?_); (case side1 => exact Kd.R_V (Kd.R_tight rfl (Kd.R_apart' (HO239.out) (Kd.R_typed HO236.out) (by decide)))); (case side2 => exact Kd.R_V (Kd.R_tight rfl (Kd.R_apart' (HO242.out) (Kd.R_typed HO236.out) (by decide)))); rintro e w28 ⟨v244, rfl, ho0, hb⟩; refine ⟨_, rfl, ?_⟩; have n0_ := Aside0.mk (Kd.R_below (pR HO229) hb); have n1_ := Aside0.mk (Kd.R_below (pR HO232) hb); have n2_ := Aside0.mk (Kd.R_elder' (pR HO236) (Kd.R_base ho0) hb); have n3_ := Aside0.mk (Kd.R_below (pR HO239) hb); have n4_ := Aside0.mk (Kd.R_below (pR HO242) hb); have n5_ := Aside0.mk (Kd.R_lower (Kd.R_new' (Kd.R_mono (ok' := fun k_ => True) ho0 (fun _ hk_ => trivial)) (Kd.R_lt (pR HO236))) (below_size (w := w) bW)); have n6_ := Aside0.mk (below_step (w := w) bW hb); clear HO229; clear HO232; clear HO236; clear HO239; clear HO242; clear HB; have HO229 := n0_; have HO232 := n1_; have HO236 := n2_; have HO239 := n3_; have HO242 := n4_; have HO245 := n5_; have HB := n6_; clear n0_ n1_ n2_ n3_ n4_ n5_ n6_; (try clear hb); (try clear hb2); (try clear hk); (try clear hi); (try clear ho0)))
      (try simp only [Act.put, List.setIfInBounds_toArray, List.set_cons_zero, List.set_cons_succ])
      go_cut [53] (fun v53 wc => ∃ (kq : Nat) (x53_15 : Bool), v53 = .bool x53_15 ∧ Aside0 (laws_FnExactChanged.j0 kq l0 l1 t233 t234 t237 t240 t243 t246 x53_15 = some true) ∧ Aside0 (kq ≤ k) ∧ Aside0 (Kd.R Kd.string 9 wc w.heap.size (fun k_ => some k_ ≠ (v244 : Value).ownBlock) v235 t233) ∧ Aside0 (Kd.R k55 55 wc w.heap.size (fun k_ => some k_ ≠ ((.slice Ao27 t240.length co27) : Value).ownBlock) (.slice Ao26 t237.length co26) t237) ∧ Aside0 (Kd.R k55 55 wc w.heap.size (fun k_ => some k_ ≠ ((.slice Ao26 t237.length co26) : Value).ownBlock) (.slice Ao27 t240.length co27) t240) ∧ Aside0 (Kd.R Kd.string 9 wc w.heap.size (fun k_ => some k_ ≠ (v235 : Value).ownBlock) v244 t243) ∧ Aside0 (Below w.heap.size w wc))
      case first =>
        have H := HC16.out
        clear HC16
        replace H := Option.bind_eq_some_iff.mp H
        obtain ⟨t247, A290, H⟩ := H
        replace H : (if t247 = true then (laws_FnExactChanged.j0 k l0 l1 t233 t234 t237 t240 t243 t246 (t246 != t234)) else (laws_FnExactChanged.j0 k l0 l1 t233 t234 t237 t240 t243 t246 true)) = some true := H
        have A29 := Aside0.mk A290
        clear A290
        by_cases c30 : t247 = true
        · subst c30
          have H1 : (laws_FnExactChanged.j0 k l0 l1 t233 t234 t237 t240 t243 t246 (t246 != t234)) = some true := by rw [if_pos rfl] at H; exact H
          clear H
          have H := H1
          clear H1
          have H' := Aside0.mk H
          clear H
          obtain ⟨Ao31, co31, eo31⟩ := Kd.R_slice HO245.out
          subst eo31
          obtain ⟨Ao32, co32, eo32⟩ := Kd.R_slice HO236.out
          subst eo32
          go_wp2_with (first | ((with_reducible refine gate_callee (f := 12) rfl ?_); refine goesL_ (some 47) rfl rfl Try.func12 (by kernel_rfl) rfl #[.slice Ao31 t243.length co31, .slice Ao32 t233.length co32] rfl gA ?_; (with_reducible refine (laws_eqStringS.calls k _ _ t243 _ _ t233 true _ ?side1 ?side2 ?side3 ?side4 A29.out).mono ?_); (case side1 => repeat (first | exact (Kd.R_reads' HO245.out).2.2 | (with_reducible refine Kd.C_alloc ?_ _) | (with_reducible refine Kd.C_drewN ?_ _) | (with_reducible refine Kd.C_drew ?_))); (case side2 => exact (Kd.R_reads' HO245.out).2.1); (case side3 => repeat (first | exact (Kd.R_reads' HO236.out).2.2 | (with_reducible refine Kd.C_alloc ?_ _) | (with_reducible refine Kd.C_drewN ?_ _) | (with_reducible refine Kd.C_drew ?_))); (case side4 => exact (Kd.R_reads' HO236.out).2.1); rintro e w' ⟨rfl, ⟨nd, rfl⟩⟩; refine ⟨_, rfl, ?_⟩))
          go_meet
          case rel => exact ⟨_, ((t246 != t234)), vE, H', ⟨by first | omega | exact Nat.le_refl _⟩, ⟨by (with_reducible repeat (first | apply Kd.R_alloc | apply Kd.R_drewN | apply Kd.R_drew)); exact Kd.R_mono HO236.out (fun _ hk => hk.2)⟩, ⟨by (with_reducible repeat (first | apply Kd.R_alloc | apply Kd.R_drewN | apply Kd.R_drew)); exact Kd.R_mono HO239.out (fun _ hk => hk.2)⟩, ⟨by (with_reducible repeat (first | apply Kd.R_alloc | apply Kd.R_drewN | apply Kd.R_drew)); exact Kd.R_mono HO242.out (fun _ hk => hk.2)⟩, ⟨by (with_reducible repeat (first | apply Kd.R_alloc | apply Kd.R_drewN | apply Kd.R_drew)); exact Kd.R_mono HO245.out (fun _ hk => hk.2)⟩, ⟨bW⟩⟩
        · replace c30 := Bool.eq_false_iff.mpr c30
          subst c30
          have H1 : (laws_FnExactChanged.j0 k l0 l1 t233 t234 t237 t240 t243 t246 true) = some true := by rw [if_neg (show ¬ (false = true) by decide)] at H; exact H
          clear H
          have H := H1
          clear H1
          have H' := Aside0.mk H
          clear H
          obtain ⟨Ao33, co33, eo33⟩ := Kd.R_slice HO245.out
          subst eo33
          obtain ⟨Ao34, co34, eo34⟩ := Kd.R_slice HO236.out
          subst eo34
          go_wp2_with (first | ((with_reducible refine gate_callee (f := 12) rfl ?_); refine goesL_ (some 47) rfl rfl Try.func12 (by kernel_rfl) rfl #[.slice Ao33 t243.length co33, .slice Ao34 t233.length co34] rfl gA ?_; (with_reducible refine (laws_eqStringS.calls k _ _ t243 _ _ t233 false _ ?side1 ?side2 ?side3 ?side4 A29.out).mono ?_); (case side1 => repeat (first | exact (Kd.R_reads' HO245.out).2.2 | (with_reducible refine Kd.C_alloc ?_ _) | (with_reducible refine Kd.C_drewN ?_ _) | (with_reducible refine Kd.C_drew ?_))); (case side2 => exact (Kd.R_reads' HO245.out).2.1); (case side3 => repeat (first | exact (Kd.R_reads' HO236.out).2.2 | (with_reducible refine Kd.C_alloc ?_ _) | (with_reducible refine Kd.C_drewN ?_ _) | (with_reducible refine Kd.C_drew ?_))); (case side4 => exact (Kd.R_reads' HO236.out).2.1); rintro e w' ⟨rfl, ⟨nd, rfl⟩⟩; refine ⟨_, rfl, ?_⟩))
          go_meet
          case rel => exact ⟨_, (true), vE, H', ⟨by first | omega | exact Nat.le_refl _⟩, ⟨by (with_reducible repeat (first | apply Kd.R_alloc | apply Kd.R_drewN | apply Kd.R_drew)); exact Kd.R_mono HO236.out (fun _ hk => hk.2)⟩, ⟨by (with_reducible repeat (first | apply Kd.R_alloc | apply Kd.R_drewN | apply Kd.R_drew)); exact Kd.R_mono HO239.out (fun _ hk => hk.2)⟩, ⟨by (with_reducible repeat (first | apply Kd.R_alloc | apply Kd.R_drewN | apply Kd.R_drew)); exact Kd.R_mono HO242.out (fun _ hk => hk.2)⟩, ⟨by (with_reducible repeat (first | apply Kd.R_alloc | apply Kd.R_drewN | apply Kd.R_drew)); exact Kd.R_mono HO245.out (fun _ hk => hk.2)⟩, ⟨bW⟩⟩
      case rest =>
        clear HC16
        try clear c1
        try clear p2
        try clear c3
        try clear c4
        try clear c4b0
        try clear c7
        try clear c7b0
        try clear c8
        try clear c9
        try clear c10
        try clear c11
        try clear c12
        try clear c30
        obtain ⟨kq, x53_15, rfl, HA, HJ15, HO_6, HO_8, HO_9, HO_10, HB⟩ := hcut
        cases kq with
        | zero => exact absurd HA.out (by simp [laws_FnExactChanged.j0])
        | succ kj15 =>
          have H := HA.out
          clear HA
          simp only [laws_FnExactChanged.j0] at H
          by_cases c35 : x53_15 = true
          · subst c35
            have H1 : (some false) = some true := by rw [if_pos rfl] at H; exact H
            exact absurd H1 (by simp)
          · replace c35 := Bool.eq_false_iff.mpr c35
            subst c35
            have H1 : ((laws_toEntryS.f kj15 l0).bind fun t248 => ((laws_eqEntryS.f kj15 t237 t248).bind fun t251 => (if t251 = true then ((laws_toEntryS.f kj15 l1).bind fun t252 => ((laws_eqEntryS.f kj15 t240 t252).bind fun t255 => (if t255 = true then ((laws_markEntryS.f kj15 t237 1).bind fun bt256 => ((laws_markEntryS.f kj15 t240 bt256.1).bind fun bt258 => (if bt258.1 < 0 then (laws_FnExactChanged.j1 kj15 l0 l1 t233 t234 t243 true) else ((laws_eqStringS.f kj15 t243 t233).bind fun t260 => (if t260 = true then (laws_FnExactChanged.j1 kj15 l0 l1 t233 t234 t243 (t246 != t234)) else (laws_FnExactChanged.j1 kj15 l0 l1 t233 t234 t243 true)))))) else (some false)))) else (some false)))) = some true := by rw [if_neg (show ¬ (false = true) by decide)] at H; exact H
            clear H
            have H := H1
            clear H1
            replace H := Option.bind_eq_some_iff.mp H
            obtain ⟨t248, A360, H⟩ := H
            replace H : ((laws_eqEntryS.f kj15 t237 t248).bind fun t251 => (if t251 = true then ((laws_toEntryS.f kj15 l1).bind fun t252 => ((laws_eqEntryS.f kj15 t240 t252).bind fun t255 => (if t255 = true then ((laws_markEntryS.f kj15 t237 1).bind fun bt256 => ((laws_markEntryS.f kj15 t240 bt256.1).bind fun bt258 => (if bt258.1 < 0 then (laws_FnExactChanged.j1 kj15 l0 l1 t233 t234 t243 true) else ((laws_eqStringS.f kj15 t243 t233).bind fun t260 => (if t260 = true then (laws_FnExactChanged.j1 kj15 l0 l1 t233 t234 t243 (t246 != t234)) else (laws_FnExactChanged.j1 kj15 l0 l1 t233 t234 t243 true)))))) else (some false)))) else (some false))) = some true := H
            have A36 := Aside0.mk A360
            clear A360
            replace H := Option.bind_eq_some_iff.mp H
            obtain ⟨t251, A370, H⟩ := H
            replace H : (if t251 = true then ((laws_toEntryS.f kj15 l1).bind fun t252 => ((laws_eqEntryS.f kj15 t240 t252).bind fun t255 => (if t255 = true then ((laws_markEntryS.f kj15 t237 1).bind fun bt256 => ((laws_markEntryS.f kj15 t240 bt256.1).bind fun bt258 => (if bt258.1 < 0 then (laws_FnExactChanged.j1 kj15 l0 l1 t233 t234 t243 true) else ((laws_eqStringS.f kj15 t243 t233).bind fun t260 => (if t260 = true then (laws_FnExactChanged.j1 kj15 l0 l1 t233 t234 t243 (t246 != t234)) else (laws_FnExactChanged.j1 kj15 l0 l1 t233 t234 t243 true)))))) else (some false)))) else (some false)) = some true := H
            have A37 := Aside0.mk A370
            clear A370
            by_cases c38 : t251 = true
            · subst c38
              have H1 : ((laws_toEntryS.f kj15 l1).bind fun t252 => ((laws_eqEntryS.f kj15 t240 t252).bind fun t255 => (if t255 = true then ((laws_markEntryS.f kj15 t237 1).bind fun bt256 => ((laws_markEntryS.f kj15 t240 bt256.1).bind fun bt258 => (if bt258.1 < 0 then (laws_FnExactChanged.j1 kj15 l0 l1 t233 t234 t243 true) else ((laws_eqStringS.f kj15 t243 t233).bind fun t260 => (if t260 = true then (laws_FnExactChanged.j1 kj15 l0 l1 t233 t234 t243 (t246 != t234)) else (laws_FnExactChanged.j1 kj15 l0 l1 t233 t234 t243 true)))))) else (some false)))) = some true := by rw [if_pos rfl] at H; exact H
              clear H
              have H := H1
              clear H1
              replace H := Option.bind_eq_some_iff.mp H
              obtain ⟨t252, A390, H⟩ := H
              replace H : ((laws_eqEntryS.f kj15 t240 t252).bind fun t255 => (if t255 = true then ((laws_markEntryS.f kj15 t237 1).bind fun bt256 => ((laws_markEntryS.f kj15 t240 bt256.1).bind fun bt258 => (if bt258.1 < 0 then (laws_FnExactChanged.j1 kj15 l0 l1 t233 t234 t243 true) else ((laws_eqStringS.f kj15 t243 t233).bind fun t260 => (if t260 = true then (laws_FnExactChanged.j1 kj15 l0 l1 t233 t234 t243 (t246 != t234)) else (laws_FnExactChanged.j1 kj15 l0 l1 t233 t234 t243 true)))))) else (some false))) = some true := H
              have A39 := Aside0.mk A390
              clear A390
              replace H := Option.bind_eq_some_iff.mp H
              obtain ⟨t255, A400, H⟩ := H
              replace H : (if t255 = true then ((laws_markEntryS.f kj15 t237 1).bind fun bt256 => ((laws_markEntryS.f kj15 t240 bt256.1).bind fun bt258 => (if bt258.1 < 0 then (laws_FnExactChanged.j1 kj15 l0 l1 t233 t234 t243 true) else ((laws_eqStringS.f kj15 t243 t233).bind fun t260 => (if t260 = true then (laws_FnExactChanged.j1 kj15 l0 l1 t233 t234 t243 (t246 != t234)) else (laws_FnExactChanged.j1 kj15 l0 l1 t233 t234 t243 true)))))) else (some false)) = some true := H
              have A40 := Aside0.mk A400
              clear A400
              by_cases c41 : t255 = true
              · subst c41
                have H1 : ((laws_markEntryS.f kj15 t237 1).bind fun bt256 => ((laws_markEntryS.f kj15 t240 bt256.1).bind fun bt258 => (if bt258.1 < 0 then (laws_FnExactChanged.j1 kj15 l0 l1 t233 t234 t243 true) else ((laws_eqStringS.f kj15 t243 t233).bind fun t260 => (if t260 = true then (laws_FnExactChanged.j1 kj15 l0 l1 t233 t234 t243 (t246 != t234)) else (laws_FnExactChanged.j1 kj15 l0 l1 t233 t234 t243 true)))))) = some true := by rw [if_pos rfl] at H; exact H
                clear H
                have H := H1
                clear H1
                replace H := Option.bind_eq_some_iff.mp H
                obtain ⟨⟨t256, t257⟩, A420, H⟩ := H
                replace H : ((laws_markEntryS.f kj15 t240 t256).bind fun bt258 => (if bt258.1 < 0 then (laws_FnExactChanged.j1 kj15 l0 l1 t233 t234 t243 true) else ((laws_eqStringS.f kj15 t243 t233).bind fun t260 => (if t260 = true then (laws_FnExactChanged.j1 kj15 l0 l1 t233 t234 t243 (t246 != t234)) else (laws_FnExactChanged.j1 kj15 l0 l1 t233 t234 t243 true))))) = some true := H
                have A42 := Aside0.mk A420
                clear A420
                replace H := Option.bind_eq_some_iff.mp H
                obtain ⟨⟨t258, t259⟩, A430, H⟩ := H
                replace H : (if t258 < 0 then (laws_FnExactChanged.j1 kj15 l0 l1 t233 t234 t243 true) else ((laws_eqStringS.f kj15 t243 t233).bind fun t260 => (if t260 = true then (laws_FnExactChanged.j1 kj15 l0 l1 t233 t234 t243 (t246 != t234)) else (laws_FnExactChanged.j1 kj15 l0 l1 t233 t234 t243 true)))) = some true := H
                have A43 := Aside0.mk A430
                clear A430
                have HC44 := Aside0.mk H
                clear H
                go_upto_region 21 with (first | ((with_reducible refine gate_callee (f := 10) rfl ?_); refine goesL_ (some 56) rfl rfl Try.func10 (by kernel_rfl) rfl #[.slice A0 l0.length c0] rfl gA ?_; (with_reducible refine (laws_toEntryS.calls kj15 _ _ l0 t248 _ ?side1 ?side2 A36.out).mono ?_); (case side1 => exact cB HR0); (case side2 => exact HC0.out); rintro e w45 ⟨v249, rfl, ho0, hb⟩; refine ⟨_, rfl, ?_⟩; have n0_ := Aside0.mk (Kd.R_below (pR HO_6) hb); have n1_ := Aside0.mk (Kd.R_elder' (pR HO_8) (Kd.R_base ho0) hb); have n2_ := Aside0.mk (Kd.R_elder' (pR HO_9) (Kd.R_base ho0) hb); have n3_ := Aside0.mk (Kd.R_below (pR HO_10) hb); have n4_ := Aside0.mk (Kd.R_lower (Kd.R_new' (Kd.R_new' ho0 (Kd.R_lt (pR HO_8))) (Kd.R_lt (pR HO_9))) (below_size (w := w) bW)); have n5_ := Aside0.mk (below_step (w := w) bW hb); clear HO_6; clear HO_8; clear HO_9; clear HO_10; clear HB; have HO_6 := n0_; have HO_8 := n1_; have HO_9 := n2_; have HO_10 := n3_; have HO250 := n4_; have HB := n5_; clear n0_ n1_ n2_ n3_ n4_ n5_; (try clear hb); (try clear hb2); (try clear hk); (try clear hi); (try clear ho0); obtain ⟨Ao46, co46, eo46⟩ := Kd.R_slice HO250.out; subst eo46) | ((with_reducible refine gate_callee (f := 13) rfl ?_); refine goesL_ (some 57) rfl rfl Try.func13 (by kernel_rfl) rfl #[.slice Ao26 t237.length co26, .slice Ao46 t248.length co46] rfl gA ?_; (with_reducible refine (laws_eqEntryS.calls kj15 _ _ t237 _ _ t248 true _ ?side1 ?side2 ?side3 ?side4 A37.out).mono ?_); (case side1 => repeat (first | exact (Kd.R_reads' HO_8.out).2.2 | (with_reducible refine Kd.C_alloc ?_ _) | (with_reducible refine Kd.C_drewN ?_ _) | (with_reducible refine Kd.C_drew ?_))); (case side2 => exact (Kd.R_reads' HO_8.out).2.1); (case side3 => repeat (first | exact (Kd.R_reads' HO250.out).2.2 | (with_reducible refine Kd.C_alloc ?_ _) | (with_reducible refine Kd.C_drewN ?_ _) | (with_reducible refine Kd.C_drew ?_))); (case side4 => exact (Kd.R_reads' HO250.out).2.1); rintro e w47 ⟨rfl, hb⟩; refine ⟨_, rfl, ?_⟩; have n0_ := Aside0.mk (Kd.R_below (pR HO_6) hb); have n1_ := Aside0.mk (Kd.R_below (pR HO_8) hb); have n2_ := Aside0.mk (Kd.R_below (pR HO_9) hb); have n3_ := Aside0.mk (Kd.R_below (pR HO_10) hb); have n4_ := Aside0.mk (Kd.R_below (pR HO250) hb); have n5_ := Aside0.mk (below_step (w := w) bW hb); clear HO_6; clear HO_8; clear HO_9; clear HO_10; clear HO250; clear HB; have HO_6 := n0_; have HO_8 := n1_; have HO_9 := n2_; have HO_10 := n3_; have HO250 := n4_; have HB := n5_; clear n0_ n1_ n2_ n3_ n4_ n5_; (try clear hb); (try clear hb2); (try clear hk); (try clear hi)) | ((with_reducible refine gate_callee (f := 10) rfl ?_); refine goesL_ (some 61) rfl rfl Try.func10 (by kernel_rfl) rfl #[.slice A1 l1.length c1] rfl gA ?_; (with_reducible refine (laws_toEntryS.calls kj15 _ _ l1 t252 _ ?side1 ?side2 A39.out).mono ?_); (case side1 => exact cB HR1); (case side2 => exact HC1.out); rintro e w48 ⟨v253, rfl, ho0, hb⟩; refine ⟨_, rfl, ?_⟩; have n0_ := Aside0.mk (Kd.R_below (pR HO_6) hb); have n1_ := Aside0.mk (Kd.R_elder' (pR HO_8) (Kd.R_base ho0) hb); have n2_ := Aside0.mk (Kd.R_elder' (pR HO_9) (Kd.R_base ho0) hb); have n3_ := Aside0.mk (Kd.R_below (pR HO_10) hb); have n4_ := Aside0.mk (Kd.R_elder' (pR HO250) (Kd.R_base ho0) hb); have n5_ := Aside0.mk (Kd.R_lower (Kd.R_new' (Kd.R_new' (Kd.R_new' ho0 (Kd.R_lt (pR HO_8))) (Kd.R_lt (pR HO_9))) (Kd.R_lt (pR HO250))) (below_size (w := w) bW)); have n6_ := Aside0.mk (below_step (w := w) bW hb); clear HO_6; clear HO_8; clear HO_9; clear HO_10; clear HO250; clear HB; have HO_6 := n0_; have HO_8 := n1_; have HO_9 := n2_; have HO_10 := n3_; have HO250 := n4_; have HO254 := n5_; have HB := n6_; clear n0_ n1_ n2_ n3_ n4_ n5_ n6_; (try clear hb); (try clear hb2); (try clear hk); (try clear hi); (try clear ho0); obtain ⟨Ao49, co49, eo49⟩ := Kd.R_slice HO254.out; subst eo49) | ((with_reducible refine gate_callee (f := 13) rfl ?_); refine goesL_ (some 62) rfl rfl Try.func13 (by kernel_rfl) rfl #[.slice Ao27 t240.length co27, .slice Ao49 t252.length co49] rfl gA ?_; (with_reducible refine (laws_eqEntryS.calls kj15 _ _ t240 _ _ t252 true _ ?side1 ?side2 ?side3 ?side4 A40.out).mono ?_); (case side1 => repeat (first | exact (Kd.R_reads' HO_9.out).2.2 | (with_reducible refine Kd.C_alloc ?_ _) | (with_reducible refine Kd.C_drewN ?_ _) | (with_reducible refine Kd.C_drew ?_))); (case side2 => exact (Kd.R_reads' HO_9.out).2.1); (case side3 => repeat (first | exact (Kd.R_reads' HO254.out).2.2 | (with_reducible refine Kd.C_alloc ?_ _) | (with_reducible refine Kd.C_drewN ?_ _) | (with_reducible refine Kd.C_drew ?_))); (case side4 => exact (Kd.R_reads' HO254.out).2.1); rintro e w50 ⟨rfl, hb⟩; refine ⟨_, rfl, ?_⟩; have n0_ := Aside0.mk (Kd.R_below (pR HO_6) hb); have n1_ := Aside0.mk (Kd.R_below (pR HO_8) hb); have n2_ := Aside0.mk (Kd.R_below (pR HO_9) hb); have n3_ := Aside0.mk (Kd.R_below (pR HO_10) hb); have n4_ := Aside0.mk (Kd.R_below (pR HO250) hb); have n5_ := Aside0.mk (Kd.R_below (pR HO254) hb); have n6_ := Aside0.mk (below_step (w := w) bW hb); clear HO_6; clear HO_8; clear HO_9; clear HO_10; clear HO250; clear HO254; clear HB; have HO_6 := n0_; have HO_8 := n1_; have HO_9 := n2_; have HO_10 := n3_; have HO250 := n4_; have HO254 := n5_; have HB := n6_; clear n0_ n1_ n2_ n3_ n4_ n5_ n6_; (try clear hb); (try clear hb2); (try clear hk); (try clear hi)) | ((with_reducible refine gate_callee (f := 14) rfl ?_); refine goesL_ (some 66) rfl rfl Try.func14 (by kernel_rfl) rfl #[.slice Ao26 t237.length co26, .int .i64 1] rfl gA ?_; (with_reducible refine (laws_markEntryS.calls kj15 (fun k_ => some k_ = (.slice Ao26 t237.length co26 : Value).ownBlock) (.slice Ao26 t237.length co26) t237 1 t256 t257 w _ ?side1 ?side2 A42.out).mono ?_); (case side1 => repeat (first | (with_reducible first | exact HB.out | apply below_alloc | apply pw_below_drewN | apply below_drew1) | exact HB.out)); (case side2 => exact Kd.R_tight rfl HO_8.out); rintro e w51 ⟨rfl, hy0, hb, hkp⟩; refine ⟨_, rfl, ?_⟩; have n0_ := Aside0.mk (Kd.R_mono (ok' := fun k_ => some k_ ≠ (v244 : Value).ownBlock) (Kd.R_keptB ((Kd.R_apart' HO_6.out (Kd.R_typed HO_8.out) (by decide))) hkp (fun k_ hk_ hs_ => (hk_.2) hs_)) (fun k_ hk_ => hk_.1.1)); have n1_ := Aside0.mk (Kd.R_reok rfl hy0 (fun k_ e_ => HO_8.out.1 k_ e_)); have n2_ := Aside0.mk (Kd.R_mono (ok' := fun k_ => some k_ ≠ (.slice Ao26 t237.length co26 : Value).ownBlock ∧ some k_ ≠ (.slice Ao46 t248.length co46 : Value).ownBlock ∧ some k_ ≠ (.slice Ao49 t252.length co49 : Value).ownBlock) (Kd.R_keptB (HO_9.out) hkp (fun k_ hk_ hs_ => (hk_.1.1) hs_)) (fun k_ hk_ => ⟨hk_.1.1.1, hk_.1.1.2, hk_.1.2⟩)); have n3_ := Aside0.mk (Kd.R_mono (ok' := fun k_ => some k_ ≠ (v235 : Value).ownBlock) (Kd.R_keptB ((Kd.R_apart' HO_10.out (Kd.R_typed HO_8.out) (by decide))) hkp (fun k_ hk_ hs_ => (hk_.2) hs_)) (fun k_ hk_ => hk_.1.1)); have n4_ := Aside0.mk (Kd.R_mono (ok' := fun k_ => some k_ ≠ (.slice Ao26 t237.length co26 : Value).ownBlock ∧ some k_ ≠ (.slice Ao27 t240.length co27 : Value).ownBlock ∧ some k_ ≠ (.slice Ao49 t252.length co49 : Value).ownBlock) (Kd.R_keptB (HO250.out) hkp (fun k_ hk_ hs_ => (hk_.1.1.2) hs_)) (fun k_ hk_ => ⟨hk_.1.1.1.2, hk_.1.1.2, hk_.1.2⟩)); have n5_ := Aside0.mk (Kd.R_mono (ok' := fun k_ => some k_ ≠ (.slice Ao26 t237.length co26 : Value).ownBlock ∧ some k_ ≠ (.slice Ao27 t240.length co27 : Value).ownBlock ∧ some k_ ≠ (.slice Ao46 t248.length co46 : Value).ownBlock) (Kd.R_keptB (HO254.out) hkp (fun k_ hk_ hs_ => (hk_.1.1.2) hs_)) (fun k_ hk_ => ⟨hk_.1.1.1.2, hk_.1.1.2, hk_.1.2⟩)); have n6_ := Aside0.mk (hb); clear HO_6; clear HO_8; clear HO_9; clear HO_10; clear HO250; clear HO254; clear HB; have HO_6 := n0_; have HO_8 := n1_; have HO_9 := n2_; have HO_10 := n3_; have HO250 := n4_; have HO254 := n5_; have HB := n6_; clear n0_ n1_ n2_ n3_ n4_ n5_ n6_; (try clear hb); (try clear hkp); (try clear hy0)) | ((with_reducible refine gate_callee (f := 14) rfl ?_); refine goesL_ (some 69) rfl rfl Try.func14 (by kernel_rfl) rfl #[.slice Ao27 t240.length co27, .int .i64 t256] rfl gA ?_; (with_reducible refine (laws_markEntryS.calls kj15 (fun k_ => some k_ = (.slice Ao27 t240.length co27 : Value).ownBlock) (.slice Ao27 t240.length co27) t240 t256 t258 t259 w _ ?side1 ?side2 A43.out).mono ?_); (case side1 => repeat (first | (with_reducible first | exact HB.out | apply below_alloc | apply pw_below_drewN | apply below_drew1) | exact HB.out)); (case side2 => exact Kd.R_tight rfl HO_9.out); rintro e w52 ⟨rfl, hy0, hb, hkp⟩; refine ⟨_, rfl, ?_⟩; have n0_ := Aside0.mk (Kd.R_mono (ok' := fun k_ => some k_ ≠ (v244 : Value).ownBlock) (Kd.R_keptB ((Kd.R_apart' HO_6.out (Kd.R_typed HO_9.out) (by decide))) hkp (fun k_ hk_ hs_ => (hk_.2) hs_)) (fun k_ hk_ => hk_.1.1)); have n1_ := Aside0.mk (Kd.R_mono (ok' := fun k_ => some k_ ≠ (.slice Ao27 t240.length co27 : Value).ownBlock ∧ some k_ ≠ (.slice Ao46 t248.length co46 : Value).ownBlock ∧ some k_ ≠ (.slice Ao49 t252.length co49 : Value).ownBlock) (Kd.R_keptB (HO_8.out) hkp (fun k_ hk_ hs_ => (hk_.1.1) hs_)) (fun k_ hk_ => ⟨hk_.1.1.1, hk_.1.1.2, hk_.1.2⟩)); have n2_ := Aside0.mk (Kd.R_reok rfl hy0 (fun k_ e_ => HO_9.out.1 k_ e_)); have n3_ := Aside0.mk (Kd.R_mono (ok' := fun k_ => some k_ ≠ (v235 : Value).ownBlock) (Kd.R_keptB ((Kd.R_apart' HO_10.out (Kd.R_typed HO_9.out) (by decide))) hkp (fun k_ hk_ hs_ => (hk_.2) hs_)) (fun k_ hk_ => hk_.1.1)); have n4_ := Aside0.mk (Kd.R_mono (ok' := fun k_ => some k_ ≠ (.slice Ao26 t237.length co26 : Value).ownBlock ∧ some k_ ≠ (.slice Ao27 t240.length co27 : Value).ownBlock ∧ some k_ ≠ (.slice Ao49 t252.length co49 : Value).ownBlock) (Kd.R_keptB (HO250.out) hkp (fun k_ hk_ hs_ => (hk_.2.1) hs_)) (fun k_ hk_ => ⟨hk_.1.1, hk_.1.2.1, hk_.1.2.2⟩)); have n5_ := Aside0.mk (Kd.R_mono (ok' := fun k_ => some k_ ≠ (.slice Ao26 t237.length co26 : Value).ownBlock ∧ some k_ ≠ (.slice Ao27 t240.length co27 : Value).ownBlock ∧ some k_ ≠ (.slice Ao46 t248.length co46 : Value).ownBlock) (Kd.R_keptB (HO254.out) hkp (fun k_ hk_ hs_ => (hk_.2.1) hs_)) (fun k_ hk_ => ⟨hk_.1.1, hk_.1.2.1, hk_.1.2.2⟩)); have n6_ := Aside0.mk (hb); clear HO_6; clear HO_8; clear HO_9; clear HO_10; clear HO250; clear HO254; clear HB; have HO_6 := n0_; have HO_8 := n1_; have HO_9 := n2_; have HO_10 := n3_; have HO250 := n4_; have HO254 := n5_; have HB := n6_; clear n0_ n1_ n2_ n3_ n4_ n5_ n6_; (try clear hb); (try clear hkp); (try clear hy0)))
                (try simp only [Act.put, List.setIfInBounds_toArray, List.set_cons_zero, List.set_cons_succ])
                go_cut [82] (fun v82 wc => ∃ (kq : Nat) (x82_43 : Bool), v82 = .bool x82_43 ∧ Aside0 (laws_FnExactChanged.j1 kq l0 l1 t233 t234 t243 x82_43 = some true) ∧ Aside0 (kq ≤ kj15) ∧ Aside0 (Kd.R Kd.string 9 wc w.heap.size (fun k_ => some k_ ≠ (v244 : Value).ownBlock) v235 t233) ∧ Aside0 (Kd.R Kd.string 9 wc w.heap.size (fun k_ => some k_ ≠ (v235 : Value).ownBlock) v244 t243) ∧ Aside0 (Below w.heap.size w wc))
                case first =>
                  have H := HC44.out
                  clear HC44
                  by_cases c53 : t258 < 0
                  · rw [if_pos c53] at H
                    have c53b0 : decide (t258 < 0) = true := decide_eq_true c53
                    clear c53
                    (first | rw [c53b0] | (simp only [i64_w, i32_w]; rw [c53b0]) | skip)
                    have H' := Aside0.mk H
                    clear H
                    go_wp2
                    go_meet
                    case rel => exact ⟨_, (true), vE, H', ⟨by have := HJ15.out; first | omega | exact Nat.le_refl _⟩, ⟨by (with_reducible repeat (first | apply Kd.R_alloc | apply Kd.R_drewN | apply Kd.R_drew)); exact HO_6.out⟩, ⟨by (with_reducible repeat (first | apply Kd.R_alloc | apply Kd.R_drewN | apply Kd.R_drew)); exact HO_10.out⟩, ⟨bW⟩⟩
                  · rw [if_neg c53] at H
                    have c53b0 : decide (t258 < 0) = false := decide_eq_false c53
                    clear c53
                    (first | rw [c53b0] | (simp only [i64_w, i32_w]; rw [c53b0]) | skip)
                    replace H := Option.bind_eq_some_iff.mp H
                    obtain ⟨t260, A540, H⟩ := H
                    replace H : (if t260 = true then (laws_FnExactChanged.j1 kj15 l0 l1 t233 t234 t243 (t246 != t234)) else (laws_FnExactChanged.j1 kj15 l0 l1 t233 t234 t243 true)) = some true := H
                    have A54 := Aside0.mk A540
                    clear A540
                    by_cases c55 : t260 = true
                    · subst c55
                      have H1 : (laws_FnExactChanged.j1 kj15 l0 l1 t233 t234 t243 (t246 != t234)) = some true := by rw [if_pos rfl] at H; exact H
                      clear H
                      have H := H1
                      clear H1
                      have H' := Aside0.mk H
                      clear H
                      obtain ⟨Ao56, co56, eo56⟩ := Kd.R_slice HO_10.out
                      subst eo56
                      obtain ⟨Ao57, co57, eo57⟩ := Kd.R_slice HO_6.out
                      subst eo57
                      go_wp2_with (first | (go_at_call 12; (with_reducible refine (laws_eqStringS.calls kj15 _ _ t243 _ _ t233 true _ ?side1 ?side2 ?side3 ?side4 A54.out).mono ?_); (case side1 => repeat (first | exact (Kd.R_reads' HO_10.out).2.2 | (with_reducible refine Kd.C_alloc ?_ _) | (with_reducible refine Kd.C_drewN ?_ _) | (with_reducible refine Kd.C_drew ?_))); (case side2 => exact (Kd.R_reads' HO_10.out).2.1); (case side3 => repeat (first | exact (Kd.R_reads' HO_6.out).2.2 | (with_reducible refine Kd.C_alloc ?_ _) | (with_reducible refine Kd.C_drewN ?_ _) | (with_reducible refine Kd.C_drew ?_))); (case side4 => exact (Kd.R_reads' HO_6.out).2.1); rintro e w' ⟨rfl, ⟨nd, rfl⟩⟩))
                      go_meet
                      case rel => exact ⟨_, ((t246 != t234)), vE, H', ⟨by have := HJ15.out; first | omega | exact Nat.le_refl _⟩, ⟨by (with_reducible repeat (first | apply Kd.R_alloc | apply Kd.R_drewN | apply Kd.R_drew)); exact HO_6.out⟩, ⟨by (with_reducible repeat (first | apply Kd.R_alloc | apply Kd.R_drewN | apply Kd.R_drew)); exact HO_10.out⟩, ⟨bW⟩⟩
                    · replace c55 := Bool.eq_false_iff.mpr c55
                      subst c55
                      have H1 : (laws_FnExactChanged.j1 kj15 l0 l1 t233 t234 t243 true) = some true := by rw [if_neg (show ¬ (false = true) by decide)] at H; exact H
                      clear H
                      have H := H1
                      clear H1
                      have H' := Aside0.mk H
                      clear H
                      obtain ⟨Ao58, co58, eo58⟩ := Kd.R_slice HO_10.out
                      subst eo58
                      obtain ⟨Ao59, co59, eo59⟩ := Kd.R_slice HO_6.out
                      subst eo59
                      go_wp2_with (first | (go_at_call 12; (with_reducible refine (laws_eqStringS.calls kj15 _ _ t243 _ _ t233 false _ ?side1 ?side2 ?side3 ?side4 A54.out).mono ?_); (case side1 => repeat (first | exact (Kd.R_reads' HO_10.out).2.2 | (with_reducible refine Kd.C_alloc ?_ _) | (with_reducible refine Kd.C_drewN ?_ _) | (with_reducible refine Kd.C_drew ?_))); (case side2 => exact (Kd.R_reads' HO_10.out).2.1); (case side3 => repeat (first | exact (Kd.R_reads' HO_6.out).2.2 | (with_reducible refine Kd.C_alloc ?_ _) | (with_reducible refine Kd.C_drewN ?_ _) | (with_reducible refine Kd.C_drew ?_))); (case side4 => exact (Kd.R_reads' HO_6.out).2.1); rintro e w' ⟨rfl, ⟨nd, rfl⟩⟩))
                      go_meet
                      case rel => exact ⟨_, (true), vE, H', ⟨by have := HJ15.out; first | omega | exact Nat.le_refl _⟩, ⟨by (with_reducible repeat (first | apply Kd.R_alloc | apply Kd.R_drewN | apply Kd.R_drew)); exact HO_6.out⟩, ⟨by (with_reducible repeat (first | apply Kd.R_alloc | apply Kd.R_drewN | apply Kd.R_drew)); exact HO_10.out⟩, ⟨bW⟩⟩
                case rest =>
                  clear HC44
                  try clear c1
                  try clear p2
                  try clear c3
                  try clear c4
                  try clear c4b0
                  try clear c5
                  try clear c7
                  try clear c7b0
                  try clear c8
                  try clear c9
                  try clear c10
                  try clear c11
                  try clear c12
                  try clear c13
                  try clear c14
                  try clear c30
                  try clear c35
                  try clear c38
                  try clear c41
                  try clear c53
                  try clear c53b0
                  try clear c55
                  try clear p2
                  obtain ⟨kq, x82_43, rfl, HA, HJ43, HO_6, HO_10, HB⟩ := hcut
                  cases kq with
                  | zero => exact absurd HA.out (by simp [laws_FnExactChanged.j1])
                  | succ kj43 =>
                    have H := HA.out
                    clear HA
                    simp only [laws_FnExactChanged.j1] at H
                    by_cases c60 : x82_43 = true
                    · subst c60
                      have H1 : (some false) = some true := by rw [if_pos rfl] at H; exact H
                      exact absurd H1 (by simp)
                    · replace c60 := Bool.eq_false_iff.mpr c60
                      subst c60
                      have H1 : ((laws_markStringS.f kj43 t243 1).bind fun bt261 => ((laws_heldStringS.f kj43 bt261.2 1).bind fun t263 => (if t263 < 0 then (some false) else (if t263 = bt261.1 then ((laws_toEntryS.f kj43 l0).bind fun t264 => ((laws_toEntryS.f kj43 l1).bind fun t267 => ((impl_Changed.f kj43 t264 t267).bind fun bt270 => ((laws_eqStringS.f kj43 bt270.1 t233).bind fun t274 => (if t274 = true then (laws_FnExactChanged.j2 kj43 bt261.2 bt261.1 (bt270.2 != t234)) else (laws_FnExactChanged.j2 kj43 bt261.2 bt261.1 true)))))) else (some false))))) = some true := by rw [if_neg (show ¬ (false = true) by decide)] at H; exact H
                      clear H
                      have H := H1
                      clear H1
                      replace H := Option.bind_eq_some_iff.mp H
                      obtain ⟨⟨t261, t262⟩, A610, H⟩ := H
                      replace H : ((laws_heldStringS.f kj43 t262 1).bind fun t263 => (if t263 < 0 then (some false) else (if t263 = t261 then ((laws_toEntryS.f kj43 l0).bind fun t264 => ((laws_toEntryS.f kj43 l1).bind fun t267 => ((impl_Changed.f kj43 t264 t267).bind fun bt270 => ((laws_eqStringS.f kj43 bt270.1 t233).bind fun t274 => (if t274 = true then (laws_FnExactChanged.j2 kj43 t262 t261 (bt270.2 != t234)) else (laws_FnExactChanged.j2 kj43 t262 t261 true)))))) else (some false)))) = some true := H
                      have A61 := Aside0.mk A610
                      clear A610
                      replace H := Option.bind_eq_some_iff.mp H
                      obtain ⟨t263, A620, H⟩ := H
                      replace H : (if t263 < 0 then (some false) else (if t263 = t261 then ((laws_toEntryS.f kj43 l0).bind fun t264 => ((laws_toEntryS.f kj43 l1).bind fun t267 => ((impl_Changed.f kj43 t264 t267).bind fun bt270 => ((laws_eqStringS.f kj43 bt270.1 t233).bind fun t274 => (if t274 = true then (laws_FnExactChanged.j2 kj43 t262 t261 (bt270.2 != t234)) else (laws_FnExactChanged.j2 kj43 t262 t261 true)))))) else (some false))) = some true := H
                      have A62 := Aside0.mk A620
                      clear A620
                      by_cases c63 : t263 < 0
                      · rw [if_pos c63] at H
                        exact absurd H (by simp)
                      · rw [if_neg c63] at H
                        have c63b0 : decide (t263 < 0) = false := decide_eq_false c63
                        clear c63
                        by_cases c67 : t263 = t261
                        · rw [if_pos c67] at H
                          have c67b0 : (t263 == t261) = true := beq_iff_eq.mpr c67
                          have c67b1 : (t263 != t261) = false := bne_eq_false_iff_eq.mpr c67
                          clear c67
                          replace H := Option.bind_eq_some_iff.mp H
                          obtain ⟨t264, A680, H⟩ := H
                          replace H : ((laws_toEntryS.f kj43 l1).bind fun t267 => ((impl_Changed.f kj43 t264 t267).bind fun bt270 => ((laws_eqStringS.f kj43 bt270.1 t233).bind fun t274 => (if t274 = true then (laws_FnExactChanged.j2 kj43 t262 t261 (bt270.2 != t234)) else (laws_FnExactChanged.j2 kj43 t262 t261 true))))) = some true := H
                          have A68 := Aside0.mk A680
                          clear A680
                          replace H := Option.bind_eq_some_iff.mp H
                          obtain ⟨t267, A690, H⟩ := H
                          replace H : ((impl_Changed.f kj43 t264 t267).bind fun bt270 => ((laws_eqStringS.f kj43 bt270.1 t233).bind fun t274 => (if t274 = true then (laws_FnExactChanged.j2 kj43 t262 t261 (bt270.2 != t234)) else (laws_FnExactChanged.j2 kj43 t262 t261 true)))) = some true := H
                          have A69 := Aside0.mk A690
                          clear A690
                          replace H := Option.bind_eq_some_iff.mp H
                          obtain ⟨⟨t270, t273⟩, A700, H⟩ := H
                          replace H : ((laws_eqStringS.f kj43 t270 t233).bind fun t274 => (if t274 = true then (laws_FnExactChanged.j2 kj43 t262 t261 (t273 != t234)) else (laws_FnExactChanged.j2 kj43 t262 t261 true))) = some true := H
                          have A70 := Aside0.mk A700
                          clear A700
                          have HC71 := Aside0.mk H
                          clear H
                          obtain ⟨Ao72, co72, eo72⟩ := Kd.R_slice HO_10.out
                          subst eo72
                          go_upto_region 32 with (first | ((with_reducible refine gate_callee (f := 15) rfl ?_); refine goesL_ (some 85) rfl rfl Try.func15 (by kernel_rfl) rfl #[.slice Ao72 t243.length co72, .int .i64 1] rfl gA ?_; (with_reducible refine (laws_markStringS.calls kj43 (fun k_ => some k_ = (.slice Ao72 t243.length co72 : Value).ownBlock) (.slice Ao72 t243.length co72) t243 1 t261 t262 w _ ?side1 ?side2 A61.out).mono ?_); (case side1 => repeat (first | (with_reducible first | exact HB.out | apply below_alloc | apply pw_below_drewN | apply below_drew1) | exact HB.out)); (case side2 => exact Kd.R_tight rfl HO_10.out); rintro e w73 ⟨rfl, hy0, hb, hkp⟩; refine ⟨_, rfl, ?_⟩; have n0_ := Aside0.mk (Kd.R_mono (ok' := fun k_ => some k_ ≠ (.slice Ao72 t243.length co72 : Value).ownBlock) (Kd.R_keptB (HO_6.out) hkp (fun k_ hk_ hs_ => (hk_) hs_)) (fun k_ hk_ => hk_.1)); have n1_ := Aside0.mk (Kd.R_reok rfl hy0 (fun k_ e_ => HO_10.out.1 k_ e_)); have n2_ := Aside0.mk (hb); clear HO_6; clear HO_10; clear HB; have HO_6 := n0_; have HO_10 := n1_; have HB := n2_; clear n0_ n1_ n2_; (try clear hb); (try clear hkp); (try clear hy0)) | ((with_reducible refine gate_callee (f := 16) rfl ?_); refine goesL_ (some 88) rfl rfl Try.func16 (by kernel_rfl) rfl #[.slice Ao72 t262.length co72, .int .i64 1] rfl (by (try simp only [List.map_toArray, List.map_cons, List.map_nil]); first | done | (rw [show t262.length = t243.length from (Kd.R_reads' HO_10.out).1.symm] <;> rfl) | rfl | (simp only [List.length_drop, List.length_take]; rfl)) ?_; (with_reducible refine (laws_heldStringS.calls kj43 _ _ t262 1 t263 _ ?side1 ?side2 A62.out).mono ?_); (case side1 => repeat (first | exact (Kd.R_reads' HO_10.out).2.2 | (with_reducible refine Kd.C_alloc ?_ _) | (with_reducible refine Kd.C_drewN ?_ _) | (with_reducible refine Kd.C_drew ?_))); (case side2 => rw [show t262.length = t243.length from (Kd.R_reads' HO_10.out).1.symm]; exact (Kd.R_reads' HO_10.out).2.1); rintro e w74 ⟨rfl, hb⟩; refine ⟨_, rfl, ?_⟩; have n0_ := Aside0.mk (Kd.R_below (pR HO_6) hb); have n1_ := Aside0.mk (Kd.R_below (pR HO_10) hb); have n2_ := Aside0.mk (below_step (w := w) bW hb); clear HO_6; clear HO_10; clear HB; have HO_6 := n0_; have HO_10 := n1_; have HB := n2_; clear n0_ n1_ n2_; (try clear hb); (try clear hb2); (try clear hk); (try clear hi)) | ((with_reducible refine gate_callee (f := 10) rfl ?_); refine goesL_ (some 96) rfl rfl Try.func10 (by kernel_rfl) rfl #[.slice A0 l0.length c0] rfl gA ?_; (with_reducible refine (laws_toEntryS.calls kj43 _ _ l0 t264 _ ?side1 ?side2 A68.out).mono ?_); (case side1 => exact cB HR0); (case side2 => exact HC0.out); rintro e w75 ⟨v265, rfl, ho0, hb⟩; refine ⟨_, rfl, ?_⟩; have n0_ := Aside0.mk (Kd.R_below (pR HO_6) hb); have n1_ := Aside0.mk (Kd.R_below (pR HO_10) hb); have n2_ := Aside0.mk (Kd.R_lower ho0 (below_size (w := w) bW)); have n3_ := Aside0.mk (below_step (w := w) bW hb); clear HO_6; clear HO_10; clear HB; have HO_6 := n0_; have HO_10 := n1_; have HO266 := n2_; have HB := n3_; clear n0_ n1_ n2_ n3_; (try clear hb); (try clear hb2); (try clear hk); (try clear hi); (try clear ho0)) | ((with_reducible refine gate_callee (f := 10) rfl ?_); refine goesL_ (some 98) rfl rfl Try.func10 (by kernel_rfl) rfl #[.slice A1 l1.length c1] rfl gA ?_; (with_reducible refine (laws_toEntryS.calls kj43 _ _ l1 t267 _ ?side1 ?side2 A69.out).mono ?_); (case side1 => exact cB HR1); (case side2 => exact HC1.out); rintro e w76 ⟨v268, rfl, ho0, hb⟩; refine ⟨_, rfl, ?_⟩; have n0_ := Aside0.mk (Kd.R_below (pR HO_6) hb); have n1_ := Aside0.mk (Kd.R_below (pR HO_10) hb); have n2_ := Aside0.mk (Kd.R_elder' (pR HO266) (Kd.R_base ho0) hb); have n3_ := Aside0.mk (Kd.R_lower (Kd.R_new' ho0 (Kd.R_lt (pR HO266))) (below_size (w := w) bW)); have n4_ := Aside0.mk (below_step (w := w) bW hb); clear HO_6; clear HO_10; clear HO266; clear HB; have HO_6 := n0_; have HO_10 := n1_; have HO266 := n2_; have HO269 := n3_; have HB := n4_; clear n0_ n1_ n2_ n3_ n4_; (try clear hb); (try clear hb2); (try clear hk); (try clear hi); (try clear ho0); obtain ⟨Ao77, co77, eo77⟩ := Kd.R_slice HO266.out; subst eo77; obtain ⟨Ao78, co78, eo78⟩ := Kd.R_slice HO269.out; subst eo78) | ((with_reducible refine gate_callee (f := 11) rfl ?_); refine goesL_ (some 99) rfl rfl Try.func11 (by kernel_rfl) rfl #[.slice Ao77 t264.length co77, .slice Ao78 t267.length co78] rfl gA ?_; (with_reducible refine (impl_Changed.calls kj43 (fun k_ => some k_ = (.slice Ao77 t264.length co77 : Value).ownBlock) _ _ t264 (fun k_ => some k_ = (.slice Ao78 t267.length co78 : Value).ownBlock) _ _ t267 t270 t273 _ ?side1 ?side2 A70.out).mono ?_); (case side1 => exact Kd.R_V (Kd.R_tight rfl (Kd.R_apart' (Kd.R_apart' (HO266.out) (Kd.R_typed HO_6.out) (by decide)) (Kd.R_typed HO_10.out) (by decide)))); (case side2 => exact Kd.R_V (Kd.R_tight rfl (Kd.R_apart' (Kd.R_apart' (HO269.out) (Kd.R_typed HO_6.out) (by decide)) (Kd.R_typed HO_10.out) (by decide)))); rintro e w79 ⟨v271, rfl, ho0, hb⟩; refine ⟨_, rfl, ?_⟩; have n0_ := Aside0.mk (Kd.R_elder' (pR HO_6) (Kd.R_base ho0) hb); have n1_ := Aside0.mk (Kd.R_elder' (pR HO_10) (Kd.R_base ho0) hb); have n2_ := Aside0.mk (Kd.R_below (pR HO266) hb); have n3_ := Aside0.mk (Kd.R_below (pR HO269) hb); have n4_ := Aside0.mk (Kd.R_lower (Kd.R_new' (Kd.R_new' (Kd.R_mono (ok' := fun k_ => True) ho0 (fun _ hk_ => trivial)) (Kd.R_lt (pR HO_6))) (Kd.R_lt (pR HO_10))) (below_size (w := w) bW)); have n5_ := Aside0.mk (below_step (w := w) bW hb); clear HO_6; clear HO_10; clear HO266; clear HO269; clear HB; have HO_6 := n0_; have HO_10 := n1_; have HO266 := n2_; have HO269 := n3_; have HO272 := n4_; have HB := n5_; clear n0_ n1_ n2_ n3_ n4_ n5_; (try clear hb); (try clear hb2); (try clear hk); (try clear hi); (try clear ho0)))
                          (try simp only [Act.put, List.setIfInBounds_toArray, List.set_cons_zero, List.set_cons_succ])
                          go_cut [110] (fun v110 wc => ∃ (kq : Nat) (x110_70 : Bool), v110 = .bool x110_70 ∧ Aside0 (laws_FnExactChanged.j2 kq t262 t261 x110_70 = some true) ∧ Aside0 (kq ≤ kj43) ∧ Aside0 (Kd.R Kd.string 9 wc w.heap.size (fun _ => True) (.slice Ao72 t243.length co72) t262) ∧ Aside0 (Below w.heap.size w wc))
                          case first =>
                            have H := HC71.out
                            clear HC71
                            replace H := Option.bind_eq_some_iff.mp H
                            obtain ⟨t274, A800, H⟩ := H
                            replace H : (if t274 = true then (laws_FnExactChanged.j2 kj43 t262 t261 (t273 != t234)) else (laws_FnExactChanged.j2 kj43 t262 t261 true)) = some true := H
                            have A80 := Aside0.mk A800
                            clear A800
                            by_cases c81 : t274 = true
                            · subst c81
                              have H1 : (laws_FnExactChanged.j2 kj43 t262 t261 (t273 != t234)) = some true := by rw [if_pos rfl] at H; exact H
                              clear H
                              have H := H1
                              clear H1
                              have H' := Aside0.mk H
                              clear H
                              obtain ⟨Ao82, co82, eo82⟩ := Kd.R_slice HO272.out
                              subst eo82
                              obtain ⟨Ao83, co83, eo83⟩ := Kd.R_slice HO_6.out
                              subst eo83
                              go_wp2_with (first | ((with_reducible refine gate_callee (f := 12) rfl ?_); refine goesL_ (some 104) rfl rfl Try.func12 (by kernel_rfl) rfl #[.slice Ao82 t270.length co82, .slice Ao83 t233.length co83] rfl gA ?_; (with_reducible refine (laws_eqStringS.calls kj43 _ _ t270 _ _ t233 true _ ?side1 ?side2 ?side3 ?side4 A80.out).mono ?_); (case side1 => repeat (first | exact (Kd.R_reads' HO272.out).2.2 | (with_reducible refine Kd.C_alloc ?_ _) | (with_reducible refine Kd.C_drewN ?_ _) | (with_reducible refine Kd.C_drew ?_))); (case side2 => exact (Kd.R_reads' HO272.out).2.1); (case side3 => repeat (first | exact (Kd.R_reads' HO_6.out).2.2 | (with_reducible refine Kd.C_alloc ?_ _) | (with_reducible refine Kd.C_drewN ?_ _) | (with_reducible refine Kd.C_drew ?_))); (case side4 => exact (Kd.R_reads' HO_6.out).2.1); rintro e w' ⟨rfl, ⟨nd, rfl⟩⟩; refine ⟨_, rfl, ?_⟩))
                              go_meet
                              case rel => exact ⟨_, ((t273 != t234)), vE, H', ⟨by have := HJ15.out; have := HJ43.out; first | omega | exact Nat.le_refl _⟩, ⟨by (with_reducible repeat (first | apply Kd.R_alloc | apply Kd.R_drewN | apply Kd.R_drew)); exact Kd.R_mono HO_10.out (fun _ hk => trivial)⟩, ⟨bW⟩⟩
                            · replace c81 := Bool.eq_false_iff.mpr c81
                              subst c81
                              have H1 : (laws_FnExactChanged.j2 kj43 t262 t261 true) = some true := by rw [if_neg (show ¬ (false = true) by decide)] at H; exact H
                              clear H
                              have H := H1
                              clear H1
                              have H' := Aside0.mk H
                              clear H
                              obtain ⟨Ao84, co84, eo84⟩ := Kd.R_slice HO272.out
                              subst eo84
                              obtain ⟨Ao85, co85, eo85⟩ := Kd.R_slice HO_6.out
                              subst eo85
                              go_wp2_with (first | ((with_reducible refine gate_callee (f := 12) rfl ?_); refine goesL_ (some 104) rfl rfl Try.func12 (by kernel_rfl) rfl #[.slice Ao84 t270.length co84, .slice Ao85 t233.length co85] rfl gA ?_; (with_reducible refine (laws_eqStringS.calls kj43 _ _ t270 _ _ t233 false _ ?side1 ?side2 ?side3 ?side4 A80.out).mono ?_); (case side1 => repeat (first | exact (Kd.R_reads' HO272.out).2.2 | (with_reducible refine Kd.C_alloc ?_ _) | (with_reducible refine Kd.C_drewN ?_ _) | (with_reducible refine Kd.C_drew ?_))); (case side2 => exact (Kd.R_reads' HO272.out).2.1); (case side3 => repeat (first | exact (Kd.R_reads' HO_6.out).2.2 | (with_reducible refine Kd.C_alloc ?_ _) | (with_reducible refine Kd.C_drewN ?_ _) | (with_reducible refine Kd.C_drew ?_))); (case side4 => exact (Kd.R_reads' HO_6.out).2.1); rintro e w' ⟨rfl, ⟨nd, rfl⟩⟩; refine ⟨_, rfl, ?_⟩))
                              go_meet
                              case rel => exact ⟨_, (true), vE, H', ⟨by have := HJ15.out; have := HJ43.out; first | omega | exact Nat.le_refl _⟩, ⟨by (with_reducible repeat (first | apply Kd.R_alloc | apply Kd.R_drewN | apply Kd.R_drew)); exact Kd.R_mono HO_10.out (fun _ hk => trivial)⟩, ⟨bW⟩⟩
                          case rest =>
                            clear HC71
                            try clear c1
                            try clear p2
                            try clear c3
                            try clear c4
                            try clear c4b0
                            try clear c5
                            try clear c6
                            try clear c7
                            try clear c7b0
                            try clear c8
                            try clear c9
                            try clear c10
                            try clear c11
                            try clear c12
                            try clear c13
                            try clear c14
                            try clear c15
                            try clear c16
                            try clear c30
                            try clear c35
                            try clear c38
                            try clear c41
                            try clear c53
                            try clear c53b0
                            try clear c55
                            try clear c60
                            try clear c63
                            try clear c63b0
                            try clear c67
                            try clear c67b0
                            try clear c67b1
                            try clear c81
                            try clear p2
                            obtain ⟨kq, x110_70, rfl, HA, HJ70, HO_10, HB⟩ := hcut
                            have hl10_70 := (Kd.R_reads' HO_10.out).1
                            rw [hl10_70] at HO_10
                            (try simp only [hl10_70])
                            cases kq with
                            | zero => exact absurd HA.out (by simp [laws_FnExactChanged.j2])
                            | succ kj70 =>
                              have H := HA.out
                              clear HA
                              simp only [laws_FnExactChanged.j2] at H
                              by_cases c86 : x110_70 = true
                              · subst c86
                                have H1 : (some false) = some true := by rw [if_pos rfl] at H; exact H
                                exact absurd H1 (by simp)
                              · replace c86 := Bool.eq_false_iff.mpr c86
                                subst c86
                                have H1 : ((laws_heldStringS.f kj70 t262 1).bind fun t275 => (if t275 < 0 then (some false) else (if t275 = t261 then (some true) else (some false)))) = some true := by rw [if_neg (show ¬ (false = true) by decide)] at H; exact H
                                clear H
                                have H := H1
                                clear H1
                                replace H := Option.bind_eq_some_iff.mp H
                                obtain ⟨t275, A870, H⟩ := H
                                replace H : (if t275 < 0 then (some false) else (if t275 = t261 then (some true) else (some false))) = some true := H
                                have A87 := Aside0.mk A870
                                clear A870
                                by_cases c88 : t275 < 0
                                · rw [if_pos c88] at H
                                  exact absurd H (by simp)
                                · rw [if_neg c88] at H
                                  have c88b0 : decide (t275 < 0) = false := decide_eq_false c88
                                  clear c88
                                  by_cases c90 : t275 = t261
                                  · rw [if_pos c90] at H
                                    have c90b0 : (t275 == t261) = true := beq_iff_eq.mpr c90
                                    have c90b1 : (t275 != t261) = false := bne_eq_false_iff_eq.mpr c90
                                    clear c90
                                    clear H
                                    go_wp2_with (first | ((with_reducible refine gate_callee (f := 16) rfl ?_); refine goesL_ (some 113) rfl rfl Try.func16 (by kernel_rfl) rfl #[.slice Ao72 t262.length co72, .int .i64 1] rfl gA ?_; (with_reducible refine (laws_heldStringS.calls kj70 _ _ t262 1 t275 _ ?side1 ?side2 A87.out).mono ?_); (case side1 => repeat (first | exact (Kd.R_reads' HO_10.out).2.2 | (with_reducible refine Kd.C_alloc ?_ _) | (with_reducible refine Kd.C_drewN ?_ _) | (with_reducible refine Kd.C_drew ?_))); (case side2 => exact (Kd.R_reads' HO_10.out).2.1); rintro e w91 ⟨rfl, hb⟩; refine ⟨_, rfl, ?_⟩; have n0_ := Aside0.mk (Kd.R_below (pR HO_10) hb); have n1_ := Aside0.mk (below_step (w := w) bW hb); clear HO_10; clear HB; have HO_10 := n0_; have HB := n1_; clear n0_ n1_; (try clear hb); (try clear hb2); (try clear hk); (try clear hi)))
                                    go_ret
                                    exact ⟨rE, bW⟩
                                  · rw [if_neg c90] at H
                                    exact absurd H (by simp)
                        · rw [if_neg c67] at H
                          exact absurd H (by simp)
              · replace c41 := Bool.eq_false_iff.mpr c41
                subst c41
                have H1 : (some false) = some true := by rw [if_neg (show ¬ (false = true) by decide)] at H; exact H
                exact absurd H1 (by simp)
            · replace c38 := Bool.eq_false_iff.mpr c38
              subst c38
              have H1 : (some false) = some true := by rw [if_neg (show ¬ (false = true) by decide)] at H; exact H
              exact absurd H1 (by simp)
end Go.Proofs.Ytblejbgkcgajgaa.Q
end

section
namespace Go.Proofs.Ytblejbgkcgajgaa.Q
open Go.RowKit Go.Proofs.YtblejbgkcgajgaaW.PrintWords Go.Proofs.YtblejbgkcgajgaaW.PrintLast Go.Proofs.YtblejbgkcgajgaaW.PrintMore
attribute [local go_sem] max2_int min2_int max_two min_two max_three min_three max_four min_four   -- for this text's walks alone
set_option linter.unusedVariables false
set_option linter.unusedSimpArgs false
attribute [local go_sem] bin_leq bin_gtr bin_geq
def Opens {α : Type} (P : Program) (d : Kd α) (t : TypeId) (G : α → Prop) : Prop :=
  P.cellsOf t = d.sz ∧ ∀ {H : Type} (enc : TypeId × Value → H) (w : World) (base : Nat) (spare : Nat → Bool) (held : Bool) (fuel : Nat) (cs : List Value) (x : DataW H × List MemPlace),
    DataW.trod enc P w base spare held fuel t cs = some x → ∃ v, d.K w v cs ∧ G v
theorem add_twice (a : Addr) (m i : Nat) : (a.add m).add i = a.add (m + i) := by
  unfold Addr.add
  by_cases h1 : m = 0 <;> by_cases h2 : i = 0 <;> simp_all [Nat.add_assoc]
theorem opens_int {P : Program} {t : TypeId} {k : IntKind} (ht : P.underlying t = some (.int k)) (hc : P.cellsOf t = 1) : Opens P (Kd.int k) t (fun n => (Lit.int k n).wf = true) := by
  refine ⟨hc, fun enc w base spare held fuel cs x h => ?_⟩
  cases fuel with
  | zero => simp [DataW.trod] at h
  | succ n =>
    unfold DataW.trod at h
    rw [ht] at h
    split at h <;> simp_all
    obtain ⟨⟨rfl, h1⟩, _⟩ := h
    exact ⟨_, rfl, h1⟩
theorem opens_string {P : Program} {t : TypeId} (ht : P.underlying t = some .string) (hc : P.cellsOf t = 1) : Opens P Kd.string t (fun s => s.size ≤ 9223372036854775807) := by
  refine ⟨hc, fun enc w base spare held fuel cs x h => ?_⟩
  cases fuel with
  | zero => simp [DataW.trod] at h
  | succ n =>
    unfold DataW.trod at h
    rw [ht] at h
    split at h <;> simp_all
    exact ⟨_, rfl, h.1⟩
theorem list_of {α : Type} {Q : Nat → α → Prop} : ∀ n, (∀ i, i < n → ∃ v, Q i v) → ∃ l : List α, l.length = n ∧ ∀ i v, l[i]? = some v → Q i v
  | 0, _ => ⟨[], rfl, fun i v h => by simp at h⟩
  | n + 1, h => by
    obtain ⟨l, hl, hq⟩ := list_of n (fun i hi => h i (by omega))
    obtain ⟨v, hv⟩ := h n (by omega)
    refine ⟨l ++ [v], by simp [hl], fun i u hu => ?_⟩
    by_cases hi : i < l.length
    · rw [List.getElem?_append_left hi] at hu
      exact hq i u hu
    · have hi2 : i = l.length := by
        have := (List.getElem?_eq_some_iff.1 hu).1
        rw [List.length_append, List.length_singleton] at this
        omega
      subst hi2
      have hu' : v = u := by simpa using hu
      subst hu'
      rw [hl]
      exact hv
theorem opens_slice {α : Type} {P : Program} {d : Kd α} {t e : TypeId} {G : α → Prop} (ht : P.underlying t = some (.slice e)) (hc : P.cellsOf t = 1) (O : Opens P d e G) :
    Opens P (Kd.slice e d) t (fun l => l.length ≤ 9223372036854775807 ∧ ∀ x, x ∈ l → G x) := by
  refine ⟨hc, fun enc w base spare held fuel cs x h => ?_⟩
  rcases DataW.trod_slice ht h with ⟨rfl, _⟩ | ⟨a, len, cap, elems, rest, n, _, rfl, _, hb, hl, hm, hlen, hel, _, _⟩
  · exact ⟨[], ⟨none, 0, rfl, Nat.le_refl _, Kd.C_nil d w⟩, by simp, fun x hx => by simp at hx⟩
  · have each : ∀ i, i < len → ∃ v : α, (∃ c, c.length = d.sz ∧ d.K w v c ∧ ∀ j u, c[j]? = some u → w.cell? (a.add (i * d.sz + j)) = some u) ∧ G v := by
      intro i hi
      have h1 := hel i hi
      have h2 : elems[i]? = some (elems[i]'(by omega)) := List.getElem?_eq_getElem (by omega)
      rw [h2, Option.bind_eq_some_iff] at h1
      obtain ⟨c, hcc, htr⟩ := h1
      obtain ⟨v, hK, hG⟩ := O.2 enc w base spare held n c _ htr
      obtain ⟨_, hcl, hcells⟩ := World.cells?_some hcc
      refine ⟨v, ⟨c, d.K_len hK, hK, fun j u hu => ?_⟩, hG⟩
      have hj : j < c.length := (List.getElem?_eq_some_iff.1 hu).1
      have := hcells j (by omega)
      rw [hu, add_twice, O.1] at this
      exact this
    obtain ⟨l, hll, hq⟩ := list_of len each
    refine ⟨l, ⟨some a, cap, by rw [hll], by omega, hll ▸ ?_⟩, by unfold maxLen at hm; omega, fun x hx => ?_⟩
    · refine ⟨hll, by unfold maxLen at hm; omega, fun hp => ⟨a, rfl, fun j p hj => ?_⟩⟩
      obtain ⟨c, h1, h2, h3⟩ := (hq j p hj).1
      exact ⟨c, h1, h2, h3⟩
    · obtain ⟨i, hi, rfl⟩ := List.mem_iff_getElem.mp hx
      exact (hq i _ (List.getElem?_eq_getElem hi)).2
theorem open_row {α : Type} {P : Program} {d : Kd α} {t e : TypeId} {G : List α → Prop} (O : Opens P (Kd.slice e d) t G) {H : Type} {enc : TypeId × Value → H} {w : World} {base : Nat} {spare : Nat → Bool} {held : Bool} {a : Option Addr} {len cap : Nat} {x : DataW H} {ps : List MemPlace}
    (h : DataW.Trod enc P w base spare held t (.slice a len cap) x ps) : ∃ l, len = l.length ∧ l.length ≤ cap ∧ Kd.C d w a l.length l ∧ G l := by
  obtain ⟨fuel, hf⟩ := h
  obtain ⟨l, ⟨A, c, he, hl, hC⟩, hG⟩ := O.2 enc w base spare held fuel _ _ hf
  simp only [Value.cells] at he
  have he2 : Value.slice a len cap = Value.slice A l.length c := by simpa using he
  injection he2 with h1 h2 h3
  subst h1 h2 h3
  exact ⟨l, rfl, hl, hC, hG⟩
end Go.Proofs.Ytblejbgkcgajgaa.Q
end

section
namespace Go.Proofs.Ytblejbgkcgajgaa.Q
open Go.RowKit Go.Proofs.YtblejbgkcgajgaaW.PrintWords Go.Proofs.YtblejbgkcgajgaaW.PrintLast Go.Proofs.YtblejbgkcgajgaaW.PrintMore
attribute [local go_sem] max2_int min2_int max_two min_two max_three min_three max_four min_four   -- for this text's walks alone
set_option linter.unusedVariables false
set_option linter.unusedSimpArgs false
attribute [local go_sem] bin_leq bin_gtr bin_geq
def good51 (x : S51) : Prop := (fun s => s.size ≤ 9223372036854775807) x.f0 ∧ (fun n => (Lit.int .i64 n).wf = true) x.f1
set_option maxRecDepth 100000 in
theorem opens_51 : Opens Try.prog k51 51 good51 := by
  refine ⟨by kernel_rfl, fun enc w base spare held fuel cs x h => ?_⟩
  obtain ⟨xs, n, _, _, hcl, hxl, hf⟩ := DataW.trod_struct Try.underlying51 h
  have hcl2 : cs.length = 2 := hcl.trans (by kernel_rfl)
  obtain ⟨c0, c1, rfl⟩ : ∃ c0 c1, cs = [c0, c1] := by
    match cs, hcl2 with
    | [c0, c1], _ => exact ⟨c0, c1, rfl⟩
  have h0 := hf 0 _ rfl
  rw [List.getElem?_eq_getElem (show 0 < xs.length by rw [hxl]; decide)] at h0
  obtain ⟨v0, K0, G0⟩ := (opens_string Try.underlying9 (by kernel_rfl)).2 enc w base spare held n [c0] _ ((show DataW.trod enc Try.prog w base spare held n 9 [c0] = _ from (by first | exact h0 | (rw [show Try.prog.cellsOf 9 = 1 by kernel_rfl] at h0; exact h0))))
  have h1 := hf 1 _ rfl
  rw [List.getElem?_eq_getElem (show 1 < xs.length by rw [hxl]; decide)] at h1
  obtain ⟨v1, K1, G1⟩ := (opens_int (k := .i64) Try.underlying3 (by kernel_rfl)).2 enc w base spare held n [c1] _ ((show DataW.trod enc Try.prog w base spare held n 3 [c1] = _ from (by first | exact h1 | (rw [show Try.prog.cellsOf 3 = 1 by kernel_rfl] at h1; exact h1))))
  exact ⟨⟨v0, v1⟩, ⟨[c0], [c1], rfl, K0, K1⟩, ⟨G0, G1⟩⟩
end Go.Proofs.Ytblejbgkcgajgaa.Q
end

section
namespace Go.Proofs.Ytblejbgkcgajgaa.Q
open Go.RowKit Go.Proofs.YtblejbgkcgajgaaW.PrintWords Go.Proofs.YtblejbgkcgajgaaW.PrintLast Go.Proofs.YtblejbgkcgajgaaW.PrintMore
attribute [local go_sem] max2_int min2_int max_two min_two max_three min_three max_four min_four   -- for this text's walks alone
set_option linter.unusedVariables false
set_option linter.unusedSimpArgs false
attribute [local go_sem] bin_leq bin_gtr bin_geq
def laws_FnExactChanged.Pure : Prop := ∀ (l0 : List (S51)) (l1 : List (S51)), (fun l => l.length ≤ 9223372036854775807 ∧ ∀ x, x ∈ l → good51 x) l0 → (fun l => l.length ≤ 9223372036854775807 ∧ ∀ x, x ∈ l → good51 x) l1 → ∃ k, laws_FnExactChanged.f k l0 l1 = some true
theorem laws_FnExactChanged.walk (P : laws_FnExactChanged.Pure) (A0 : Option Addr) (c0 : Nat) (l0 : List (S51)) (A1 : Option Addr) (c1 : Nat) (l1 : List (S51)) (w : World) (w0 : (fun l => l.length ≤ 9223372036854775807 ∧ ∀ x, x ∈ l → good51 x) l0) (w1 : (fun l => l.length ≤ 9223372036854775807 ∧ ∀ x, x ∈ l → good51 x) l1) (hr0 : Kd.C k51 w A0 l0.length l0) (hc0 : l0.length ≤ c0) (hr1 : Kd.C k51 w A1 l1.length l1) (hc1 : l1.length ≤ c1) :
    Calls Try.prog 3 #[.slice A0 l0.length c0, .slice A1 l1.length c1] w fun e w' => e = .returned (.bool true) ∧ Below w.heap.size w w' := by
  obtain ⟨k, hk⟩ := P l0 l1 w0 w1
  exact (laws_FnExactChanged.calls k A0 c0 l0 A1 c1 l1 w hr0 hc0 hr1 hc1 hk).mono fun e w' h => ⟨h.1, h.2⟩
end Go.Proofs.Ytblejbgkcgajgaa.Q
end

section
namespace Go.Proofs.Ytblejbgkcgajgaa.Q
open Go.RowKit Go.Proofs.YtblejbgkcgajgaaW.PrintWords Go.Proofs.YtblejbgkcgajgaaW.PrintLast
set_option linter.unusedVariables false
set_option linter.unusedSimpArgs false
theorem rdEntry {l : List S55} {i : Nat} (h : i < l.length) : rd_T55 l (i : Int) = l[i] := by
  simp [rd_T55, List.getD_eq_getElem?_getD, List.getElem?_eq_getElem h]
end Go.Proofs.Ytblejbgkcgajgaa.Q
end

section
namespace Go.Proofs.Ytblejbgkcgajgaa.Q
open Go.RowKit Go.Proofs.YtblejbgkcgajgaaW.PrintWords Go.Proofs.YtblejbgkcgajgaaW.PrintLast Go.Proofs.YtblejbgkcgajgaaW.PrintMore
attribute [local go_sem] max2_int min2_int max_two min_two max_three min_three max_four min_four   -- for this text's walks alone
set_option linter.unusedVariables false
set_option linter.unusedSimpArgs false
attribute [local go_sem] bin_leq bin_gtr bin_geq
theorem ev_map_loop {α β : Type} {L : Nat → List α → List β → Int → Option (List β)} {g : Nat → α → Option β} {cv : α → β} {z : α}
    (step : ∀ k xs acc i, L (k + 1) xs acc i = if i < (xs.length : Int) then (if 0 ≤ i then ((g k (xs.getD i.toNat z)).bind fun y => (if i < (acc.length : Int) then (L k xs (acc.set i.toNat y) (wrap64 (i + 1))) else none)) else none) else some acc)
    (xs : List α) (hlen : xs.length ≤ 4611686018427387904) (hg : ∀ x, x ∈ xs → Ev (fun k => g k x) (cv x)) (acc : List β) (ha : acc.length = xs.length) : Ev (fun k => L k xs acc 0) (xs.map cv) := by
  have key : ∀ d (i : Nat) (acc : List β), i + d = xs.length → acc.length = xs.length → Ev (fun k => L k xs acc (i : Int)) (acc.take i ++ (xs.drop i).map cv) := by
    intro d
    induction d with
    | zero =>
      intro i acc hi ha
      refine Ev.step (f := fun _ => some acc) (fun k => by rw [step, if_neg (by omega)]) ?_
      rw [List.take_of_length_le (by omega), List.drop_eq_nil_of_le (by omega)]
      simpa using Ev.now acc
    | succ d ih =>
      intro i acc hi ha
      have hl : i < xs.length := by omega
      have hw : wrap64 ((i : Int) + 1) = ((i + 1 : Nat) : Int) := by unfold wrap64; omega
      have hx : xs.getD ((i : Int).toNat) z = xs[i] := by simp [List.getD_eq_getElem?_getD, List.getElem?_eq_getElem hl]
      refine Ev.step (f := fun k => (g k xs[i]).bind fun y => L k xs (acc.set i y) ((i + 1 : Nat) : Int)) (fun k => ?_) ?_
      · rw [step, if_pos (by omega), if_pos (by omega), hx, hw]
        congr 1
        funext y
        rw [if_pos (by omega)]
        simp
      · have h2 := ih (i + 1) (acc.set i (cv xs[i])) (by omega) (by simpa using ha)
        have e : (acc.set i (cv xs[i])).take (i + 1) ++ (xs.drop (i + 1)).map cv = acc.take i ++ (xs.drop i).map cv := by
          rw [List.drop_eq_getElem_cons hl, List.map_cons, List.take_succ_eq_append_getElem (by simpa using (show i < acc.length by omega)), List.take_set_of_le (by omega)]
          simp
        rw [e] at h2
        exact Ev.bind (hg _ (List.getElem_mem hl)) h2
  have h := key xs.length 0 acc (by omega) ha
  simpa using h
theorem ev_refl_loop {α : Type} {L : Nat → List α → List α → Int → Option Bool} {g : Nat → α → α → Option Bool} {z : α}
    (step : ∀ k xs ys i, L (k + 1) xs ys i = if i < (xs.length : Int) then (if 0 ≤ i then (if i < (ys.length : Int) then ((g k (xs.getD i.toNat z) (ys.getD i.toNat z)).bind fun t => (if t = true then L k xs ys (wrap64 (i + 1)) else some false)) else none) else none) else some true)
    (xs : List α) (hlen : xs.length ≤ 4611686018427387904) (hg : ∀ x, x ∈ xs → Ev (fun k => g k x x) true) : Ev (fun k => L k xs xs 0) true := by
  have key : ∀ d (i : Nat), i + d = xs.length → Ev (fun k => L k xs xs (i : Int)) true := by
    intro d
    induction d with
    | zero =>
      intro i hi
      exact Ev.step (f := fun _ => some true) (fun k => by rw [step, if_neg (by omega)]) (Ev.now true)
    | succ d ih =>
      intro i hi
      have hl : i < xs.length := by omega
      have hw : wrap64 ((i : Int) + 1) = ((i + 1 : Nat) : Int) := by unfold wrap64; omega
      have hx : xs.getD ((i : Int).toNat) z = xs[i] := by simp [List.getD_eq_getElem?_getD, List.getElem?_eq_getElem hl]
      refine Ev.step (f := fun k => (g k xs[i] xs[i]).bind fun t => if t = true then L k xs xs ((i + 1 : Nat) : Int) else some false) (fun k => ?_) ?_
      · rw [step, if_pos (by omega), if_pos (by omega), if_pos (by omega), hx, hw]
      · refine Ev.bind (hg _ (List.getElem_mem hl)) ?_
        simp only [if_true]
        exact ih (i + 1) (by omega)
  exact key xs.length 0 (by omega)
theorem ev_sz_loop {α : Type} {L : Nat → List α → Int → Int → Option Int} {g : Nat → α → Int → Option Int} {z : α}
    (step : ∀ k xs left i, L (k + 1) xs left i = if i < (xs.length : Int) then (if 0 ≤ i then ((g k (xs.getD i.toNat z) left).bind fun t => (if t < 0 then some (-1) else L k xs t (wrap64 (i + 1)))) else none) else some left)
    (xs : List α) (hlen : xs.length ≤ 4611686018427387904) (hg : ∀ x, x ∈ xs → ∀ left : Int, 0 ≤ left → left ≤ 1048576 → ∃ r, Ev (fun k => g k x left) r ∧ r ≤ left) (left : Int) (h0 : 0 ≤ left) (h1 : left ≤ 1048576) :
    ∃ r, Ev (fun k => L k xs left 0) r ∧ r ≤ left := by
  have key : ∀ d (i : Nat) (left : Int), i + d = xs.length → 0 ≤ left → left ≤ 1048576 → ∃ r, Ev (fun k => L k xs left (i : Int)) r ∧ r ≤ left := by
    intro d
    induction d with
    | zero =>
      intro i left hi h0 h1
      exact ⟨left, Ev.step (f := fun _ => some left) (fun k => by rw [step, if_neg (by omega)]) (Ev.now left), by omega⟩
    | succ d ih =>
      intro i left hi h0 h1
      have hl : i < xs.length := by omega
      have hw : wrap64 ((i : Int) + 1) = ((i + 1 : Nat) : Int) := by unfold wrap64; omega
      have hx : xs.getD ((i : Int).toNat) z = xs[i] := by simp [List.getD_eq_getElem?_getD, List.getElem?_eq_getElem hl]
      obtain ⟨t, ht, htl⟩ := hg _ (List.getElem_mem hl) left h0 h1
      by_cases hn : t < 0
      · refine ⟨-1, Ev.step (f := fun k => (g k xs[i] left).bind fun t => if t < 0 then some (-1) else L k xs t ((i + 1 : Nat) : Int)) (fun k => ?_) (Ev.bind ht ?_), by omega⟩
        · rw [step, if_pos (by omega), if_pos (by omega), hx, hw]
        · simp only [hn, if_true]
          exact Ev.now _
      · obtain ⟨r, hr, hrl⟩ := ih (i + 1) t (by omega) (by omega) (by omega)
        refine ⟨r, Ev.step (f := fun k => (g k xs[i] left).bind fun t => if t < 0 then some (-1) else L k xs t ((i + 1 : Nat) : Int)) (fun k => ?_) (Ev.bind ht ?_), by omega⟩
        · rw [step, if_pos (by omega), if_pos (by omega), hx, hw]
        · simp only [hn, if_false]
          exact hr
  exact key xs.length 0 left (by omega) h0 h1
end Go.Proofs.Ytblejbgkcgajgaa.Q
end

section
namespace Go.Proofs.Ytblejbgkcgajgaa.Q
open Go.RowKit Go.Proofs.YtblejbgkcgajgaaW.PrintWords Go.Proofs.YtblejbgkcgajgaaW.PrintLast
set_option linter.unusedVariables false
theorem Ev.shift {α : Type} {g h : Nat → Option α} {r : α} {c d : Nat} (e : ∀ k, g (k + c) = h (k + d)) (k : Ev h r) : Ev g r := by
  obtain ⟨K, hK⟩ := k
  refine ⟨K + c, fun n hn => ?_⟩
  obtain ⟨m, rfl⟩ : ∃ m, n = m + c := ⟨n - c, by omega⟩
  rw [e]
  exact hK _ (by omega)
theorem Ev.at_ {α : Type} {g : Nat → Option α} {r : α} {c : Nat} (e : ∀ k, g (k + c) = some r) : Ev g r := by
  refine ⟨c, fun n hn => ?_⟩
  obtain ⟨m, rfl⟩ : ∃ m, n = m + c := ⟨n - c, by omega⟩
  exact e m
theorem Ev.succ {α : Type} {g : Nat → Option α} {r : α} (h : Ev (fun k => g (k + 1)) r) : Ev g r := Ev.step (fun _ => rfl) h
theorem ev_same_loop {α : Type} {L : Nat → Int → Option Bool} {xs ys : List α} (hl : xs.length = ys.length)
    (step : ∀ (i : Nat) (h1 : i < xs.length) (h2 : i < ys.length), xs[i] = ys[i] → ∀ k, L (k + 1) (i : Int) = L k ((i + 1 : Nat) : Int))
    (stop : ∀ (i : Nat) (h1 : i < xs.length) (h2 : i < ys.length), xs[i] ≠ ys[i] → ∀ k, L (k + 1) (i : Int) = some false)
    (done : ∀ k, L (k + 1) (xs.length : Int) = some true) : ∃ b, Ev (fun k => L k 0) b ∧ (b = true ↔ xs = ys) := by
  have key : ∀ d (i : Nat), i + d = xs.length → xs.take i = ys.take i → ∃ b, Ev (fun k => L k (i : Int)) b ∧ (b = true ↔ xs = ys) := by
    intro d
    induction d with
    | zero =>
      intro i hi hp
      obtain rfl : i = xs.length := by omega
      refine ⟨true, Ev.at_ (c := 1) done, fun _ => ?_, fun _ => rfl⟩
      rw [List.take_length, hl, List.take_length] at hp
      exact hp
    | succ d ih =>
      intro i hi hp
      have h1 : i < xs.length := by omega
      have h2 : i < ys.length := by omega
      rcases Classical.em (xs[i] = ys[i]) with h | h
      · obtain ⟨b, hb, hb2⟩ := ih (i + 1) (by omega) (by rw [List.take_succ_eq_append_getElem h1, List.take_succ_eq_append_getElem h2, hp, h])
        exact ⟨b, Ev.step (step i h1 h2 h) hb, hb2⟩
      · refine ⟨false, Ev.at_ (c := 1) (stop i h1 h2 h), by simp, fun e => absurd (by subst e; rfl) h⟩
  exact key xs.length 0 (by omega) (by simp)
theorem wrap_i {i : Nat} (h : i < 4611686018427387904) : wrap64 ((i : Int) + 1) = ((i + 1 : Nat) : Int) := by unfold wrap64; omega
end Go.Proofs.Ytblejbgkcgajgaa.Q
end

section
namespace Go.Proofs.Ytblejbgkcgajgaa.Q
open Go.RowKit Go.Proofs.YtblejbgkcgajgaaW.PrintWords Go.Proofs.YtblejbgkcgajgaaW.PrintLast
set_option linter.unusedVariables false
set_option linter.unusedSimpArgs false
theorem mapB_len {l : List S55} (h : mapB l = true) : l.length ≤ 12 := by
  unfold mapB at h
  simp only [Bool.and_eq_true, decide_eq_true_eq] at h
  exact h.1
theorem mapB_rise {l : List S55} (h : mapB l = true) : RiseP l := by
  unfold mapB at h
  simp only [Bool.and_eq_true, allR_iff] at h
  have adj : ∀ j (hj : j + 1 < l.length), sblt l[j].f0 l[j + 1].f0 = true := by
    intro j hj
    have h2 := h.2 (j + 1) hj
    unfold entAt at h2
    have e : (((j + 1 : Nat) : Int) - 1) = (j : Int) := by omega
    rw [e, rdEntry (i := j) (by omega), rdEntry hj] at h2
    have z : (j + 1 == 0) = false := rfl
    simp only [z, Bool.false_or, Bool.and_eq_true] at h2
    exact h2.2
  unfold RiseP
  rw [List.pairwise_iff_getElem]
  intro i j hi hj hij
  obtain ⟨d, rfl⟩ : ∃ d, j = i + 1 + d := ⟨j - (i + 1), by omega⟩
  induction d with
  | zero => exact adj i hj
  | succ d ih => exact sblt_trans (ih (by omega) (by omega)) (adj (i + 1 + d) hj)
theorem cmpK_self {k : ByteArray} {x : S55} : cmpK k x = 0 ↔ x.f0 = k := by
  unfold cmpK cmpB
  rw [cmp_eq]
  constructor
  · intro h
    apply toList_inj
    rw [ByteArray.toList_eq, ByteArray.toList_eq, h]
  · intro h; rw [h]
theorem find_some {l : List S55} {k : ByteArray} {i : Nat} (h : RiseP l) (hi : i < l.length) (hk : l[i].f0 = k) : cntN (cmpK k) l = i ∧ fndB (cmpK k) l = true := by
  have hp := List.pairwise_iff_getElem.mp h
  have hc : cntN (cmpK k) l = i := by
    refine cntN_is l i (by omega) (fun t ht h2 => ?_) (fun t ht h2 => ?_)
    · rw [cmpK_lt, ← hk]
      exact hp t i ht hi h2
    · have h3 : ¬ cmpK k l[t] < 0 := by
        rw [cmpK_lt, ← hk]
        rcases Nat.lt_or_eq_of_le h2 with h4 | h4
        · rw [sblt_asymm (hp i t hi ht h4)]
          simp
        · subst h4
          rw [sblt_irrefl]
          simp
      omega
  refine ⟨hc, ?_⟩
  unfold fndB
  rw [hc, List.getElem?_eq_getElem hi]
  simp only [beq_iff_eq]
  exact cmpK_self.mpr hk
theorem find_none {l : List S55} {k : ByteArray} (hn : ∀ i (hi : i < l.length), l[i].f0 ≠ k) : fndB (cmpK k) l = false := by
  unfold fndB
  cases hx : l[cntN (cmpK k) l]? with
  | none => rfl
  | some x =>
    obtain ⟨hi, rfl⟩ := List.getElem?_eq_some_iff.mp hx
    simp only [beq_eq_false_iff_ne, ne_eq]
    rw [cmpK_self]
    exact hn _ hi
theorem find_f {l : List S55} {k : ByteArray} (h : RiseP l) (hl : l.length ≤ 1048576) : impl_find.f l k = some (((cntN (cmpK k) l : Nat) : Int), fndB (cmpK k) l) := by
  unfold impl_find.f bs_find.f
  rw [if_pos h, if_pos (by omega)]
  rfl
end Go.Proofs.Ytblejbgkcgajgaa.Q
end

section
namespace Go.Proofs.Ytblejbgkcgajgaa.Q
open Go.RowKit Go.Proofs.YtblejbgkcgajgaaW.PrintWords Go.Proofs.YtblejbgkcgajgaaW.PrintLast
set_option linter.unusedVariables false
set_option linter.unusedSimpArgs false
def putE (y : S55) : S62 := ⟨y.f0, y.f1, false⟩
def delE (x : S55) : S62 := ⟨x.f0, 0, true⟩
def diffM : List S55 → List S55 → List S62
  | [], ys => ys.map putE
  | x :: xs, [] => delE x :: xs.map delE
  | x :: xs, y :: ys =>
    if sblt x.f0 y.f0 = true then delE x :: diffM xs (y :: ys)
    else if sblt y.f0 x.f0 = true then putE y :: diffM (x :: xs) ys
    else if x.f1 = y.f1 then diffM xs ys else putE y :: diffM xs ys
termination_by xs ys => xs.length + ys.length
theorem diffM_nil (xs : List S55) : diffM xs [] = xs.map delE := by
  cases xs with
  | nil => simp [diffM]
  | cons x xs => simp [diffM]
theorem riseP_cons {x : S55} {xs : List S55} (h : RiseP (x :: xs)) : (∀ y, y ∈ xs → sblt x.f0 y.f0 = true) ∧ RiseP xs := by
  unfold RiseP at h ⊢
  exact List.pairwise_cons.mp h
theorem diffM_key : ∀ (xs ys : List S55) (e : S62), e ∈ diffM xs ys → (∃ x, x ∈ xs ∧ e.f0 = x.f0) ∨ (∃ y, y ∈ ys ∧ e.f0 = y.f0)
  | [], ys, e, h => by
    unfold diffM at h
    obtain ⟨y, hy, rfl⟩ := List.mem_map.mp h
    exact .inr ⟨y, hy, rfl⟩
  | x :: xs, [], e, h => by
    rw [diffM_nil] at h
    obtain ⟨z, hz, rfl⟩ := List.mem_map.mp h
    exact .inl ⟨z, hz, rfl⟩
  | x :: xs, y :: ys, e, h => by
    unfold diffM at h
    split at h
    · rcases List.mem_cons.mp h with rfl | h
      · exact .inl ⟨x, List.mem_cons_self, rfl⟩
      · rcases diffM_key xs (y :: ys) e h with ⟨z, hz, hk⟩ | hk
        · exact .inl ⟨z, List.mem_cons_of_mem _ hz, hk⟩
        · exact .inr hk
    · split at h
      · rcases List.mem_cons.mp h with rfl | h
        · exact .inr ⟨y, List.mem_cons_self, rfl⟩
        · rcases diffM_key (x :: xs) ys e h with hk | ⟨z, hz, hk⟩
          · exact .inl hk
          · exact .inr ⟨z, List.mem_cons_of_mem _ hz, hk⟩
      · have hrec : ∀ e, e ∈ diffM xs ys → (∃ z, z ∈ x :: xs ∧ e.f0 = z.f0) ∨ (∃ z, z ∈ y :: ys ∧ e.f0 = z.f0) := by
          intro e h
          rcases diffM_key xs ys e h with ⟨z, hz, hk⟩ | ⟨z, hz, hk⟩
          · exact .inl ⟨z, List.mem_cons_of_mem _ hz, hk⟩
          · exact .inr ⟨z, List.mem_cons_of_mem _ hz, hk⟩
        split at h
        · exact hrec e h
        · rcases List.mem_cons.mp h with rfl | h
          · exact .inr ⟨y, List.mem_cons_self, rfl⟩
          · exact hrec e h
termination_by xs ys => xs.length + ys.length
theorem diffM_rise : ∀ (xs ys : List S55), RiseP xs → RiseP ys → (diffM xs ys).Pairwise (fun a b => sblt a.f0 b.f0 = true)
  | [], ys, _, h => by
    unfold diffM
    rw [List.pairwise_map]
    exact h
  | x :: xs, [], h, _ => by
    rw [diffM_nil, List.pairwise_map]
    exact h
  | x :: xs, y :: ys, h1, h2 => by
    obtain ⟨hx, hx2⟩ := riseP_cons h1
    obtain ⟨hy, hy2⟩ := riseP_cons h2
    unfold diffM
    split
    · rename_i hlt
      refine List.pairwise_cons.mpr ⟨fun e he => ?_, diffM_rise xs (y :: ys) hx2 h2⟩
      rcases diffM_key xs (y :: ys) e he with ⟨z, hz, hk⟩ | ⟨z, hz, hk⟩
      · rw [hk]; exact hx z hz
      · rw [hk]
        rcases List.mem_cons.mp hz with rfl | hz
        · exact hlt
        · exact sblt_trans hlt (hy z hz)
    · rename_i hnlt
      split
      · rename_i hlt
        refine List.pairwise_cons.mpr ⟨fun e he => ?_, diffM_rise (x :: xs) ys h1 hy2⟩
        rcases diffM_key (x :: xs) ys e he with ⟨z, hz, hk⟩ | ⟨z, hz, hk⟩
        · rw [hk]
          rcases List.mem_cons.mp hz with rfl | hz
          · exact hlt
          · exact sblt_trans hlt (hx z hz)
        · rw [hk]; exact hy z hz
      · rename_i hnlt2
        have he0 : x.f0 = y.f0 := sblt_tri (Bool.not_eq_true _ ▸ hnlt) (Bool.not_eq_true _ ▸ hnlt2)
        split
        · exact diffM_rise xs ys hx2 hy2
        · refine List.pairwise_cons.mpr ⟨fun e he => ?_, diffM_rise xs ys hx2 hy2⟩
          rcases diffM_key xs ys e he with ⟨z, hz, hk⟩ | ⟨z, hz, hk⟩
          · rw [hk]
            show sblt y.f0 z.f0 = true
            rw [← he0]; exact hx z hz
          · rw [hk]; exact hy z hz
termination_by xs ys => xs.length + ys.length
def newE (xs : List S55) (y : S55) : List S62 := if xs.any (fun x => decide (x.f0 = y.f0) && decide (x.f1 = y.f1)) then [] else [putE y]
def oldE (ys : List S55) (x : S55) : List S62 := if ys.any (fun y => decide (y.f0 = x.f0)) then [] else [delE x]
theorem newE_skip {x : S55} {xs : List S55} {y : S55} (h : x.f0 ≠ y.f0) : newE (x :: xs) y = newE xs y := by
  unfold newE
  rw [List.any_cons, decide_eq_false h, Bool.false_and, Bool.false_or]
theorem oldE_skip {y : S55} {ys : List S55} {x : S55} (h : y.f0 ≠ x.f0) : oldE (y :: ys) x = oldE ys x := by
  unfold oldE
  rw [List.any_cons, decide_eq_false h, Bool.false_or]
theorem flatMap_congr_ {α β : Type} {f g : α → List β} : ∀ {l : List α}, (∀ x, x ∈ l → f x = g x) → l.flatMap f = l.flatMap g
  | [], _ => rfl
  | x :: xs, h => by rw [List.flatMap_cons, List.flatMap_cons, h x List.mem_cons_self, flatMap_congr_ (fun y hy => h y (List.mem_cons_of_mem _ hy))]
theorem flatMap_one {α β : Type} {g : α → β} : ∀ (l : List α), l.flatMap (fun x => [g x]) = l.map g
  | [] => rfl
  | x :: xs => by rw [List.flatMap_cons, flatMap_one xs]; rfl
theorem diffM_perm : ∀ (xs ys : List S55), RiseP xs → RiseP ys → (ys.flatMap (newE xs) ++ xs.flatMap (oldE ys)).Perm (diffM xs ys)
  | [], ys, _, _ => by
    have e : ys.flatMap (newE []) = ys.map putE := by
      rw [← flatMap_one]
      exact flatMap_congr_ (fun y _ => by simp [newE])
    rw [List.flatMap_nil, List.append_nil, e]
    unfold diffM
    exact List.Perm.refl _
  | x :: xs, [], _, _ => by
    rw [diffM_nil, List.flatMap_nil, List.nil_append, ← flatMap_one]
    rw [flatMap_congr_ (g := fun x => [delE x]) (fun y _ => by simp [oldE])]
  | x :: xs, y :: ys, h1, h2 => by
    obtain ⟨hx, hx2⟩ := riseP_cons h1
    obtain ⟨hy, hy2⟩ := riseP_cons h2
    unfold diffM
    split
    · rename_i hlt
      have hall : ∀ z, z ∈ y :: ys → x.f0 ≠ z.f0 := by
        intro z hz
        rcases List.mem_cons.mp hz with rfl | hz
        · exact sblt_ne hlt
        · exact sblt_ne (sblt_trans hlt (hy z hz))
      have e1 : (y :: ys).flatMap (newE (x :: xs)) = (y :: ys).flatMap (newE xs) := flatMap_congr_ (fun z hz => newE_skip (hall z hz))
      have e2 : oldE (y :: ys) x = [delE x] := by
        unfold oldE
        rw [if_neg]
        intro h
        obtain ⟨z, hz, hk⟩ := List.any_eq_true.mp h
        exact hall z hz (of_decide_eq_true hk).symm
      rw [e1, List.flatMap_cons (f := oldE (y :: ys)), e2]
      exact (List.perm_middle).trans ((diffM_perm xs (y :: ys) hx2 h2).cons _)
    · rename_i hnlt
      split
      · rename_i hlt
        have hall : ∀ z, z ∈ x :: xs → y.f0 ≠ z.f0 := by
          intro z hz
          rcases List.mem_cons.mp hz with rfl | hz
          · exact sblt_ne hlt
          · exact sblt_ne (sblt_trans hlt (hx z hz))
        have e1 : (x :: xs).flatMap (oldE (y :: ys)) = (x :: xs).flatMap (oldE ys) := flatMap_congr_ (fun z hz => oldE_skip (hall z hz))
        have e2 : newE (x :: xs) y = [putE y] := by
          unfold newE
          rw [if_neg]
          intro h
          obtain ⟨z, hz, hk⟩ := List.any_eq_true.mp h
          rw [Bool.and_eq_true, decide_eq_true_eq] at hk
          exact hall z hz hk.1.symm
        rw [e1, List.flatMap_cons (f := newE (x :: xs)), e2]
        exact (diffM_perm (x :: xs) ys h1 hy2).cons _
      · rename_i hnlt2
        have he0 : x.f0 = y.f0 := sblt_tri (Bool.not_eq_true _ ▸ hnlt) (Bool.not_eq_true _ ▸ hnlt2)
        have e1 : ys.flatMap (newE (x :: xs)) = ys.flatMap (newE xs) := flatMap_congr_ (fun z hz => newE_skip (by rw [he0]; exact sblt_ne (hy z hz)))
        have e2 : xs.flatMap (oldE (y :: ys)) = xs.flatMap (oldE ys) := flatMap_congr_ (fun z hz => oldE_skip (by rw [← he0]; exact sblt_ne (hx z hz)))
        have e3 : oldE (y :: ys) x = [] := by
          unfold oldE
          rw [List.any_cons, decide_eq_true he0.symm, Bool.true_or, if_pos rfl]
        have hr := diffM_perm xs ys hx2 hy2
        rw [List.flatMap_cons, List.flatMap_cons, e1, e2, e3, List.nil_append]
        split
        · rename_i hv
          have e4 : newE (x :: xs) y = [] := by
            unfold newE
            rw [List.any_cons, decide_eq_true he0, decide_eq_true hv, Bool.and_self, Bool.true_or, if_pos rfl]
          rw [e4, List.nil_append]
          exact hr
        · rename_i hv
          have e4 : newE (x :: xs) y = [putE y] := by
            unfold newE
            rw [if_neg]
            intro h
            obtain ⟨z, hz, hk⟩ := List.any_eq_true.mp h
            rw [Bool.and_eq_true, decide_eq_true_eq, decide_eq_true_eq] at hk
            rcases List.mem_cons.mp hz with rfl | hz
            · exact hv hk.2
            · exact sblt_ne (hx z hz) (he0.trans hk.1.symm)
          rw [e4]
          exact hr.cons _
termination_by xs ys => xs.length + ys.length
theorem sort_unique {l m : List S62} (hp : l.Perm m) (hm : m.Pairwise (fun a b => sblt a.f0 b.f0 = true)) : sortE l = m := by
  obtain ⟨h1, h2⟩ := sortE_is l
  have h3 : (sortE l).Perm m := h1.trans hp
  refine List.Perm.eq_of_pairwise (le := fun a b => sblt b.f0 a.f0 = false) ?_ h2 ?_ h3
  · intro a b ha hb k1 k2
    have ha' : a ∈ m := h3.mem_iff.mp ha
    have hk : a.f0 = b.f0 := sblt_tri k2 k1
    rcases List.pairwise_iff_getElem.mp hm with hg
    obtain ⟨i, hi, rfl⟩ := List.mem_iff_getElem.mp ha'
    obtain ⟨j, hj, rfl⟩ := List.mem_iff_getElem.mp hb
    rcases Nat.lt_trichotomy i j with h | h | h
    · exact absurd hk (sblt_ne (hg i j hi hj h))
    · subst h; rfl
    · exact absurd hk.symm (sblt_ne (hg j i hj hi h))
  · exact hm.imp (fun h => sblt_asymm h)
theorem diffM_len : ∀ (xs ys : List S55), (diffM xs ys).length ≤ xs.length + ys.length
  | [], ys => by unfold diffM; rw [List.length_map]; omega
  | x :: xs, [] => by rw [diffM_nil, List.length_map]; omega
  | x :: xs, y :: ys => by
    have h1 := diffM_len xs (y :: ys)
    have h2 := diffM_len (x :: xs) ys
    have h3 := diffM_len xs ys
    simp only [List.length_cons] at *
    unfold diffM
    split
    · simp only [List.length_cons]; omega
    · split
      · simp only [List.length_cons]; omega
      · split
        · omega
        · simp only [List.length_cons]; omega
termination_by xs ys => xs.length + ys.length
theorem sblt_is (a b : ByteArray) : Op.bytesLess a.toList b.toList = sblt a b := rfl
theorem l01Diff_end (a b : List S55) (acc : List S62) : Ev (fun q => spec_l01Diff.l0 q a b acc (a.length : Int) (b.length : Int)) (acc ++ diffM (a.drop a.length) (b.drop b.length)) := by
  refine Ev.at_ (c := 2) (fun q => ?_)
  have c1 : ¬ ((a.length : Int) < (a.length : Int)) := by omega
  have c2 : ¬ ((b.length : Int) < (b.length : Int)) := by omega
  simp only [spec_l01Diff.l0, spec_l01Diff.j1, if_neg c1, decide_eq_false c2, Bool.false_eq_true, if_false, List.drop_length]
  unfold diffM
  simp
theorem l01Diff_loop (a b : List S55) (ha : a.length ≤ 1048576) (hb : b.length ≤ 1048576) : ∀ (d i j : Nat) (acc : List S62), i ≤ a.length → j ≤ b.length → (a.length - i) + (b.length - j) ≤ d → acc.length + d ≤ 100000000 →
    Ev (fun q => spec_l01Diff.l0 q a b acc (i : Int) (j : Int)) (acc ++ diffM (a.drop i) (b.drop j)) := by
  intro d
  induction d with
  | zero =>
    intro i j acc hi hj hd _
    obtain rfl : i = a.length := by omega
    obtain rfl : j = b.length := by omega
    exact l01Diff_end a b acc
  | succ d ih =>
    intro i j acc hi hj hd hacc
    have hlen : acc.length < 4398046511104 := by omega
    have i0 : (0 : Int) ≤ (i : Int) := Int.natCast_nonneg _
    have j0 : (0 : Int) ≤ (j : Int) := Int.natCast_nonneg _
    have wi := wrap_i (show i < 4611686018427387904 by omega)
    have wj := wrap_i (show j < 4611686018427387904 by omega)
    have hap : ∀ (acc : List S62) (e : S62) (l : List S62), acc ++ e :: l = (acc ++ [e]) ++ l := fun acc e l => by simp
    by_cases hil : i < a.length
    · have ci : (i : Int) < (a.length : Int) := by omega
      have ri : rd_T55 a (i : Int) = a[i] := rdEntry hil
      have da : a.drop i = a[i] :: a.drop (i + 1) := List.drop_eq_getElem_cons hil
      by_cases hjl : j < b.length
      · have cj : (j : Int) < (b.length : Int) := by omega
        have cj2 : ¬ ((j : Int) = (b.length : Int)) := by omega
        have rj : rd_T55 b (j : Int) = b[j] := rdEntry hjl
        have db : b.drop j = b[j] :: b.drop (j + 1) := List.drop_eq_getElem_cons hjl
        have ci2 : ¬ ((i : Int) = (a.length : Int)) := by omega
        rw [da, db]
        unfold diffM
        by_cases h1 : sblt a[i].f0 b[j].f0 = true
        · rw [if_pos h1, hap, ← db]
          refine Ev.shift (c := 3) (d := 0) (fun q => ?_) (ih (i + 1) j (acc ++ [delE a[i]]) (by omega) hj (by omega) (by rw [List.length_append]; simp only [List.length_cons, List.length_nil]; omega))
          simp only [spec_l01Diff.l0, spec_l01Diff.j1, spec_l01Diff.j2, if_pos ci, if_true, if_neg cj2, if_pos i0, if_pos j0, if_pos cj, ri, rj, sblt_is, h1, if_pos hlen, wi, Nat.add_zero, delE]
        · rw [if_neg h1]
          have h1f : sblt a[i].f0 b[j].f0 = false := Bool.not_eq_true _ ▸ h1
          by_cases h2 : sblt b[j].f0 a[i].f0 = true
          · rw [if_pos h2, hap, ← da]
            refine Ev.shift (c := 4) (d := 0) (fun q => ?_) (ih i (j + 1) (acc ++ [putE b[j]]) hi (by omega) (by omega) (by rw [List.length_append]; simp only [List.length_cons, List.length_nil]; omega))
            simp only [spec_l01Diff.l0, spec_l01Diff.j1, spec_l01Diff.j2, spec_l01Diff.j3, if_pos ci, if_true, if_neg cj2, if_pos i0, if_pos j0, if_pos cj, ri, rj, sblt_is, h1f, Bool.false_eq_true, if_false, if_neg ci2, h2, if_pos hlen, wj, Nat.add_zero, putE]
          · rw [if_neg h2]
            have h2f : sblt b[j].f0 a[i].f0 = false := Bool.not_eq_true _ ▸ h2
            by_cases h3 : a[i].f1 = b[j].f1
            · rw [if_pos h3]
              refine Ev.shift (c := 4) (d := 0) (fun q => ?_) (ih (i + 1) (j + 1) acc (by omega) (by omega) (by omega) (by omega))
              simp only [spec_l01Diff.l0, spec_l01Diff.j1, spec_l01Diff.j2, spec_l01Diff.j3, if_pos ci, if_true, if_neg cj2, if_pos i0, if_pos j0, if_pos cj, ri, rj, sblt_is, h1f, Bool.false_eq_true, if_false, if_neg ci2, h2f, if_pos h3, wi, wj, Nat.add_zero]
            · rw [if_neg h3, hap]
              refine Ev.shift (c := 4) (d := 0) (fun q => ?_) (ih (i + 1) (j + 1) (acc ++ [putE b[j]]) (by omega) (by omega) (by omega) (by rw [List.length_append]; simp only [List.length_cons, List.length_nil]; omega))
              simp only [spec_l01Diff.l0, spec_l01Diff.j1, spec_l01Diff.j2, spec_l01Diff.j3, if_pos ci, if_true, if_neg cj2, if_pos i0, if_pos j0, if_pos cj, ri, rj, sblt_is, h1f, Bool.false_eq_true, if_false, if_neg ci2, h2f, if_neg h3, if_pos hlen, wi, wj, Nat.add_zero, putE]
      · obtain rfl : j = b.length := by omega
        have hr := ih (i + 1) b.length (acc ++ [delE a[i]]) (by omega) hj (by omega) (by rw [List.length_append]; simp only [List.length_cons, List.length_nil]; omega)
        rw [List.drop_length, diffM_nil] at hr ⊢
        rw [da, List.map_cons, hap]
        refine Ev.shift (c := 3) (d := 0) (fun q => ?_) hr
        simp only [spec_l01Diff.l0, spec_l01Diff.j1, spec_l01Diff.j2, if_pos ci, if_true, if_pos i0, ri, if_pos hlen, wi, Nat.add_zero, delE]
    · obtain rfl : i = a.length := by omega
      by_cases hjl : j < b.length
      case neg =>
        obtain rfl : j = b.length := by omega
        exact l01Diff_end a b acc
      have ci : ¬ ((a.length : Int) < (a.length : Int)) := by omega
      have cj : (j : Int) < (b.length : Int) := by omega
      have cj2 : ¬ ((j : Int) = (b.length : Int)) := by omega
      have rj : rd_T55 b (j : Int) = b[j] := rdEntry hjl
      have db : b.drop j = b[j] :: b.drop (j + 1) := List.drop_eq_getElem_cons hjl
      have hr := ih a.length (j + 1) (acc ++ [putE b[j]]) hi (by omega) (by omega) (by rw [List.length_append]; simp only [List.length_cons, List.length_nil]; omega)
      have e0 : ∀ l : List S55, diffM [] l = l.map putE := fun l => by unfold diffM; rfl
      rw [List.drop_length, e0] at hr ⊢
      rw [db, List.map_cons, hap]
      refine Ev.shift (c := 4) (d := 0) (fun q => ?_) hr
      simp only [spec_l01Diff.l0, spec_l01Diff.j1, spec_l01Diff.j2, spec_l01Diff.j3, if_neg ci, decide_eq_true cj, if_true, if_neg cj2, Bool.false_eq_true, if_false, if_pos j0, if_pos cj, rj, if_pos hlen, wj, Nat.add_zero, putE]
theorem l01Diff_ev (a b : List S55) (ha : a.length ≤ 1048576) (hb : b.length ≤ 1048576) : Ev (fun q => spec_l01Diff.f q a b) (diffM a b) := by
  have h := l01Diff_loop a b ha hb (a.length + b.length) 0 0 [] (Nat.zero_le _) (Nat.zero_le _) (by omega) (by simp only [List.length_nil]; omega)
  rw [List.drop_zero, List.drop_zero, List.nil_append] at h
  exact h
theorem newE_found {a : List S55} {y : S55} {t : Nat} (h : RiseP a) (ht : t < a.length) (hk : a[t].f0 = y.f0) : newE a y = if a[t].f1 = y.f1 then [] else [putE y] := by
  unfold newE
  by_cases hv : a[t].f1 = y.f1
  · rw [if_pos hv, if_pos]
    exact List.any_eq_true.mpr ⟨a[t], List.getElem_mem ht, by rw [decide_eq_true hk, decide_eq_true hv]; rfl⟩
  · rw [if_neg hv, if_neg]
    intro hh
    obtain ⟨z, hz, hq⟩ := List.any_eq_true.mp hh
    rw [Bool.and_eq_true, decide_eq_true_eq, decide_eq_true_eq] at hq
    obtain ⟨s, hs, rfl⟩ := List.mem_iff_getElem.mp hz
    have e1 := (find_some h hs hq.1).1
    have e2 := (find_some h ht hk).1
    obtain rfl : s = t := by rw [← e1, e2]
    exact hv hq.2
theorem newE_none {a : List S55} {y : S55} (h : ∀ i (hi : i < a.length), a[i].f0 ≠ y.f0) : newE a y = [putE y] := by
  unfold newE
  rw [if_neg]
  intro hh
  obtain ⟨z, hz, hq⟩ := List.any_eq_true.mp hh
  rw [Bool.and_eq_true, decide_eq_true_eq] at hq
  obtain ⟨s, hs, rfl⟩ := List.mem_iff_getElem.mp hz
  exact h s hs hq.1
theorem oldE_found {b : List S55} {x : S55} {t : Nat} (ht : t < b.length) (hk : b[t].f0 = x.f0) : oldE b x = [] := by
  unfold oldE
  rw [if_pos]
  exact List.any_eq_true.mpr ⟨b[t], List.getElem_mem ht, decide_eq_true hk⟩
theorem oldE_none {b : List S55} {x : S55} (h : ∀ i (hi : i < b.length), b[i].f0 ≠ x.f0) : oldE b x = [delE x] := by
  unfold oldE
  rw [if_neg]
  intro hh
  obtain ⟨z, hz, hq⟩ := List.any_eq_true.mp hh
  obtain ⟨s, hs, rfl⟩ := List.mem_iff_getElem.mp hz
  exact h s hs (of_decide_eq_true hq)
theorem diff_l1 (a b : List S55) (hra : RiseP a) (hrb : RiseP b) (ha : a.length ≤ 1048576) (hb : b.length ≤ 1048576) : ∀ (d i : Nat) (acc : List S62), i + d = a.length → acc.length + d ≤ 100000000 →
    Ev (fun q => impl_diff.l1 q b acc a (a.length : Int) (i : Int)) (sortE (acc ++ (a.drop i).flatMap (oldE b))) := by
  intro d
  induction d with
  | zero =>
    intro i acc hi hacc
    obtain rfl : i = a.length := by omega
    have c1 : ¬ ((a.length : Int) < (a.length : Int)) := by omega
    have hlen : acc.length < 4611686018427387904 := by omega
    refine Ev.at_ (c := 1) (fun q => ?_)
    rw [List.drop_length, List.flatMap_nil, List.append_nil]
    simp only [impl_diff.l1, if_neg c1, sort_Edit.f, if_pos hlen, Option.bind_some]
  | succ d ih =>
    intro i acc hi hacc
    have hil : i < a.length := by omega
    have c1 : (i : Int) < (a.length : Int) := by omega
    have i0 : (0 : Int) ≤ (i : Int) := Int.natCast_nonneg _
    have ri : rd_T55 a (i : Int) = a[i] := rdEntry hil
    have hlen : acc.length < 4398046511104 := by omega
    have w := wrap_i (show i < 4611686018427387904 by omega)
    rw [List.drop_eq_getElem_cons hil, List.flatMap_cons]
    by_cases hx : ∃ t, ∃ ht : t < b.length, b[t].f0 = a[i].f0
    · obtain ⟨t, ht, hk⟩ := hx
      obtain ⟨e1, e2⟩ := find_some hrb ht hk
      have hf : impl_find.f b a[i].f0 = some ((t : Int), true) := by rw [find_f hrb hb, e1, e2]
      rw [oldE_found ht hk, List.nil_append]
      refine Ev.shift (c := 1) (d := 0) (fun q => ?_) (ih (i + 1) acc (by omega) (by omega))
      simp only [impl_diff.l1, if_pos c1, if_pos i0, ri, hf, Option.bind_some, if_true, w, Nat.add_zero]
    · have hn : ∀ t (ht : t < b.length), b[t].f0 ≠ a[i].f0 := fun t ht hk => hx ⟨t, ht, hk⟩
      have hf : impl_find.f b a[i].f0 = some (((cntN (cmpK a[i].f0) b : Nat) : Int), false) := by rw [find_f hrb hb, find_none hn]
      rw [oldE_none hn, ← List.append_assoc]
      refine Ev.shift (c := 1) (d := 0) (fun q => ?_) (ih (i + 1) (acc ++ [delE a[i]]) (by omega) (by rw [List.length_append]; simp only [List.length_cons, List.length_nil]; omega))
      simp only [impl_diff.l1, if_pos c1, if_pos i0, ri, hf, Option.bind_some, Bool.false_eq_true, if_false, if_pos hlen, w, Nat.add_zero, delE]
theorem diff_l0 (a b : List S55) (hra : RiseP a) (hrb : RiseP b) (ha : a.length ≤ 1048576) (hb : b.length ≤ 1048576) : ∀ (d i : Nat) (acc : List S62), i + d = b.length → acc.length + d ≤ 90000000 →
    Ev (fun q => impl_diff.l0 q a b acc b (b.length : Int) (i : Int)) (sortE (acc ++ ((b.drop i).flatMap (newE a) ++ a.flatMap (oldE b)))) := by
  intro d
  induction d with
  | zero =>
    intro i acc hi hacc
    obtain rfl : i = b.length := by omega
    have c1 : ¬ ((b.length : Int) < (b.length : Int)) := by omega
    have h := diff_l1 a b hra hrb ha hb a.length 0 acc (by omega) (by omega)
    rw [List.drop_zero] at h
    rw [List.drop_length, List.flatMap_nil, List.nil_append]
    refine Ev.shift (c := 1) (d := 0) (fun q => ?_) h
    simp only [impl_diff.l0, if_neg c1, Nat.add_zero]
    rfl
  | succ d ih =>
    intro i acc hi hacc
    have hil : i < b.length := by omega
    have c1 : (i : Int) < (b.length : Int) := by omega
    have i0 : (0 : Int) ≤ (i : Int) := Int.natCast_nonneg _
    have ri : rd_T55 b (i : Int) = b[i] := rdEntry hil
    have hlen : acc.length < 4398046511104 := by omega
    have w := wrap_i (show i < 4611686018427387904 by omega)
    have hadd : ∀ (e : S62) (l : List S62), acc ++ ([e] ++ l ++ a.flatMap (oldE b)) = (acc ++ [e]) ++ (l ++ a.flatMap (oldE b)) := fun e l => by simp
    rw [List.drop_eq_getElem_cons hil, List.flatMap_cons]
    by_cases hx : ∃ t, ∃ ht : t < a.length, a[t].f0 = b[i].f0
    · obtain ⟨t, ht, hk⟩ := hx
      obtain ⟨e1, e2⟩ := find_some hra ht hk
      have hf : impl_find.f a b[i].f0 = some ((t : Int), true) := by rw [find_f hra ha, e1, e2]
      have t0 : (0 : Int) ≤ (t : Int) := Int.natCast_nonneg _
      have t1 : (t : Int) < (a.length : Int) := by omega
      have rt : rd_T55 a (t : Int) = a[t] := rdEntry ht
      rw [newE_found hra ht hk]
      by_cases hv : a[t].f1 = b[i].f1
      · rw [if_pos hv, List.nil_append]
        refine Ev.shift (c := 1) (d := 0) (fun q => ?_) (ih (i + 1) acc (by omega) (by omega))
        simp only [impl_diff.l0, if_pos c1, if_pos i0, ri, hf, Option.bind_some, if_true, if_pos t0, if_pos t1, rt, if_pos hv, w, Nat.add_zero]
      · rw [if_neg hv, hadd]
        refine Ev.shift (c := 1) (d := 0) (fun q => ?_) (ih (i + 1) (acc ++ [putE b[i]]) (by omega) (by rw [List.length_append]; simp only [List.length_cons, List.length_nil]; omega))
        simp only [impl_diff.l0, if_pos c1, if_pos i0, ri, hf, Option.bind_some, if_true, if_pos t0, if_pos t1, rt, if_neg hv, if_pos hlen, w, Nat.add_zero, putE]
    · have hn : ∀ t (ht : t < a.length), a[t].f0 ≠ b[i].f0 := fun t ht hk => hx ⟨t, ht, hk⟩
      have hf : impl_find.f a b[i].f0 = some (((cntN (cmpK b[i].f0) a : Nat) : Int), false) := by rw [find_f hra ha, find_none hn]
      rw [newE_none hn, hadd]
      refine Ev.shift (c := 1) (d := 0) (fun q => ?_) (ih (i + 1) (acc ++ [putE b[i]]) (by omega) (by rw [List.length_append]; simp only [List.length_cons, List.length_nil]; omega))
      simp only [impl_diff.l0, if_pos c1, if_pos i0, ri, hf, Option.bind_some, Bool.false_eq_true, if_false, if_pos hlen, w, Nat.add_zero, putE]
theorem diff_ev (a b : List S55) (hra : RiseP a) (hrb : RiseP b) (ha : a.length ≤ 1048576) (hb : b.length ≤ 1048576) : Ev (fun q => impl_diff.f q a b) (diffM a b) := by
  have h := diff_l0 a b hra hrb ha hb b.length 0 [] (by omega) (by simp only [List.length_nil]; omega)
  rw [List.drop_zero, List.nil_append, sort_unique (diffM_perm a b hra hrb) (diffM_rise a b hra hrb)] at h
  exact h
end Go.Proofs.Ytblejbgkcgajgaa.Q
end

section
namespace Go.Proofs.Ytblejbgkcgajgaa.Q
open Go.RowKit Go.Proofs.YtblejbgkcgajgaaW.PrintWords Go.Proofs.YtblejbgkcgajgaaW.PrintLast
set_option linter.unusedVariables false
set_option linter.unusedSimpArgs false
def fit2 (a b : List S55) : Prop := a.length ≤ 4096 ∧ b.length ≤ 4096
theorem areMaps_big {a b : List S55} (h : ¬ fit2 a b) : impl_areMaps.f [a, b] = some 2 := by
  unfold impl_areMaps.f areAllMap_isList.f
  have e : [a, b].all (fun x => decide (x.length ≤ 4096)) = false := by
    rw [Bool.eq_false_iff]
    intro h2
    simp only [List.all_cons, List.all_nil, Bool.and_true, Bool.and_eq_true, decide_eq_true_eq] at h2
    exact h h2
  rw [e]
  simp only [Option.bind_some, Bool.false_eq_true, if_false]
theorem areMaps_small {a b : List S55} (h : fit2 a b) : impl_areMaps.f [a, b] = some (if (mapB a && mapB b) = true then 0 else 1) := by
  unfold impl_areMaps.f areAllMap_isList.f areAllMap_MapOK.f
  obtain ⟨h1, h2⟩ := h
  have e : [a, b].all (fun x => decide (x.length ≤ 4096)) = true := by
    simp only [List.all_cons, List.all_nil, Bool.and_true, Bool.and_eq_true, decide_eq_true_eq]
    exact ⟨h1, h2⟩
  have e2 : [a, b].all (fun x => decide (x.length ≤ 1048576)) = true := by
    simp only [List.all_cons, List.all_nil, Bool.and_true, Bool.and_eq_true, decide_eq_true_eq]
    omega
  have e3 : [a, b].all mapB = (mapB a && mapB b) := by simp only [List.all_cons, List.all_nil, Bool.and_true]
  rw [e, e2, e3]
  simp only [Option.bind_some, if_true]
  split <;> rfl
end Go.Proofs.Ytblejbgkcgajgaa.Q
end

section
namespace Go.Proofs.Ytblejbgkcgajgaa.Q
open Go.RowKit Go.Proofs.YtblejbgkcgajgaaW.PrintWords Go.Proofs.YtblejbgkcgajgaaW.PrintLast
set_option linter.unusedVariables false
def cvEntry (x : S51) : S55 := ⟨x.f0, x.f1⟩
theorem toEntryS_ev (l : List S51) (h : l.length ≤ 1048576) : Ev (fun k => laws_toEntryS.f k l) (l.map cvEntry) := by
  refine Ev.congr (f := fun k => laws_toEntryS.l0 k l (List.replicate l.length z55) 0) (fun k => ?_) ?_
  · unfold laws_toEntryS.f
    rw [if_pos (by omega), if_pos (by omega)]
    rfl
  · exact ev_map_loop (L := laws_toEntryS.l0) (g := fun _ x => some (cvEntry x)) (z := z51) (fun _ _ _ _ => rfl) l (by omega) (fun x _ => Ev.now _) _ (by simp)
theorem eqEntry_refl (x : S55) : laws_eqEntry.f x.f0 x.f1 x.f0 x.f1 = some true := by
  unfold laws_eqEntry.f
  simp
theorem eqEntryS_ev (l : List S55) (h : l.length ≤ 1048576) : Ev (fun k => laws_eqEntryS.f k l l) true := by
  refine Ev.congr (f := fun k => laws_eqEntryS.l0 k l l 0) (fun k => ?_) ?_
  · unfold laws_eqEntryS.f
    rw [if_pos rfl]
  · exact ev_refl_loop (L := laws_eqEntryS.l0) (g := fun _ x y => laws_eqEntry.f x.f0 x.f1 y.f0 y.f1) (z := z55) (fun _ _ _ _ => rfl) l (by omega) (fun x _ => Ev.congr (fun _ => eqEntry_refl x) (Ev.now _))
theorem szEntryS_ev (l : List S51) (hl : l.length ≤ 9223372036854775807) (hg : ∀ x, x ∈ l → good51 x) (left : Int) (h0 : 0 ≤ left) (h1 : left ≤ 1048576) :
    ∃ r, Ev (fun k => laws_szEntryS.f k l left) r ∧ r ≤ left ∧ (0 ≤ r → l.length ≤ 1048576) := by
  have hw : wrap64 (left - (l.length : Int)) = left - (l.length : Int) := by unfold wrap64; omega
  by_cases hn : left - (l.length : Int) < 0
  · refine ⟨-1, Ev.congr (f := fun _ => some (-1)) (fun k => ?_) (Ev.now _), by omega, by omega⟩
    unfold laws_szEntryS.f
    rw [hw, if_pos hn]
  · obtain ⟨r, hr, hrl⟩ := ev_sz_loop (L := laws_szEntryS.l0) (g := fun _ x left => laws_szEntry.f x.f0 x.f1 left) (z := z51) (fun _ _ _ _ => rfl) l (by omega) (fun x hx left h0 h1 => by
      have hsz : x.f0.size ≤ 9223372036854775807 := (hg x hx).1
      have hw2 : wrap64 (left - (x.f0.size : Int)) = left - (x.f0.size : Int) := by unfold wrap64; omega
      by_cases h2 : left - (x.f0.size : Int) < 0
      · refine ⟨-1, Ev.congr (f := fun _ => some (-1)) (fun k => ?_) (Ev.now _), by omega⟩
        unfold laws_szEntry.f
        rw [hw2, if_pos h2]
      · refine ⟨left - (x.f0.size : Int), Ev.congr (f := fun _ => some (left - (x.f0.size : Int))) (fun k => ?_) (Ev.now _), by omega⟩
        unfold laws_szEntry.f
        rw [hw2, if_neg h2]) (left - (l.length : Int)) (by omega) (by omega)
    refine ⟨r, Ev.congr (f := fun k => laws_szEntryS.l0 k l (left - (l.length : Int)) 0) (fun k => ?_) hr, by omega, by omega⟩
    unfold laws_szEntryS.f
    rw [hw, if_neg hn]
end Go.Proofs.Ytblejbgkcgajgaa.Q
end

section
namespace Go.Proofs.Ytblejbgkcgajgaa.Q
open Go.RowKit Go.Proofs.YtblejbgkcgajgaaW.PrintWords Go.Proofs.YtblejbgkcgajgaaW.PrintLast Go.Proofs.YtblejbgkcgajgaaW.PrintMore
attribute [local go_sem] max2_int min2_int max_two min_two max_three min_three max_four min_four   -- for this text's walks alone
set_option linter.unusedVariables false
set_option linter.unusedSimpArgs false
attribute [local go_sem] bin_leq bin_gtr bin_geq
def laws_heldEntryS.l0 : Nat → List (S55) → Int → Int → Option (Int)
  | 0, _, _, _ => none
  | k + 1, x0, x1, x5 => if x5 < (x0.length : Int) then (if 0 ≤ x5 then ((laws_markText.f k x1).bind fun t513 => (if ((rd_T55 x0 x5).f0).toList = t513.toList then (if ((rd_T55 x0 x5).f1) = (wrap64 (x1 + 1)) then (laws_heldEntryS.l0 k x0 (wrap64 ((wrap64 (x1 + 1)) + 1)) (wrap64 (x5 + 1))) else (some (-1))) else (some (-1)))) else (none)) else (some x1)
def laws_heldEntryS.f (k : Nat) (l0 : List (S55)) (a1 : Int) : Option (Int) := laws_heldEntryS.l0 k l0 a1 0
end Go.Proofs.Ytblejbgkcgajgaa.Q
end

section
namespace Go.Proofs.Ytblejbgkcgajgaa.Q
open Go.RowKit Go.Proofs.YtblejbgkcgajgaaW.PrintWords Go.Proofs.YtblejbgkcgajgaaW.PrintLast
set_option linter.unusedVariables false
set_option linter.unusedSimpArgs false
theorem markText_l0 : ∀ (d : Nat) (n : Int) (s : ByteArray), 0 ≤ n → n ≤ 9223372036854775807 → n < 10 ^ d → s.size + d ≤ 1000 → ∃ r, Ev (fun k => laws_markText.l0 k n s) r := by
  intro d
  induction d with
  | zero =>
    intro n s h0 hn9 h1 hs
    have hn : ¬ n > 0 := by simp at h1; omega
    have hz : 1 + s.size ≤ 9223372036854775807 := by omega
    exact ⟨_, Ev.at_ (c := 1) (fun k => by simp only [laws_markText.l0, hn, if_false, hz, if_true]; rfl)⟩
  | succ d ih =>
    intro n s h0 hn9 h1 hs
    by_cases hn : n > 0
    · have e1 : Int.tdiv n 10 = n / 10 := Int.tdiv_eq_ediv_of_nonneg h0
      have h2 : n / 10 < 10 ^ d := by
        rw [Int.pow_succ] at h1
        omega
      have hw : wrap64 (n / 10) = n / 10 := by unfold wrap64; omega
      have hz : (strOfNums [(wrap64 (48 + (Int.tmod n 10))) % 256]).size = 1 := rfl
      have hz2 : 1 + s.size ≤ 9223372036854775807 := by omega
      obtain ⟨r, hr⟩ := ih (n / 10) (strOfNums [(wrap64 (48 + (Int.tmod n 10))) % 256] ++ s) (by omega) (by omega) h2 (by rw [ByteArray.size_append, hz]; omega)
      refine ⟨r, Ev.step (fun k => ?_) hr⟩
      simp only [laws_markText.l0, hn, if_true, Option.bind_some, hz, hz2, e1, hw]
    · have hz : 1 + s.size ≤ 9223372036854775807 := by omega
      exact ⟨_, Ev.at_ (c := 1) (fun k => by simp only [laws_markText.l0, hn, if_false, hz, if_true]; rfl)⟩
theorem markTexts : ∃ mt : Int → ByteArray, ∀ n, 0 ≤ n → n ≤ 1000000000 → Ev (fun k => laws_markText.f k n) (mt n) := by
  have h : ∀ n : Int, ∃ s, 0 ≤ n → n ≤ 1000000000 → Ev (fun k => laws_markText.f k n) s := by
    intro n
    by_cases h0 : 0 ≤ n ∧ n ≤ 1000000000
    · by_cases h1 : n ≤ 0
      · exact ⟨_, fun _ _ => Ev.at_ (c := 0) (fun k => by unfold laws_markText.f; rw [if_pos h1])⟩
      · obtain ⟨s, hs⟩ := markText_l0 10 n (⟨#[]⟩ : ByteArray) h0.1 (by omega) (by omega) (by decide)
        exact ⟨s, fun _ _ => Ev.congr (fun k => by unfold laws_markText.f; rw [if_neg h1]) hs⟩
    · exact ⟨ByteArray.empty, fun a b => absurd ⟨a, b⟩ h0⟩
  exact ⟨fun n => Classical.choose (h n), fun n => Classical.choose_spec (h n)⟩
theorem ev_mark_loop {α : Type} {L : Nat → List α → Int → Int → Option (Int × List α)} {H : Nat → List α → Int → Int → Option Int} {mk : α → Int → α} {c : Int} (hc : 0 ≤ c)
    (stepL : ∀ (l : List α) (m : Int) (i : Nat) (hi : i < l.length), l.length ≤ 1048576 → 0 ≤ m → m ≤ 900000000 → ∀ r, Ev (fun k => L k (l.set i (mk l[i] m)) (m + c) ((i + 1 : Nat) : Int)) r → Ev (fun k => L k l m (i : Int)) r)
    (stepH : ∀ (l : List α) (m : Int) (i : Nat) (hi : i < l.length) (y : α), l[i] = mk y m → l.length ≤ 1048576 → 0 ≤ m → m ≤ 900000000 → ∀ r, Ev (fun k => H k l (m + c) ((i + 1 : Nat) : Int)) r → Ev (fun k => H k l m (i : Int)) r)
    (doneL : ∀ (l : List α) (m : Int) k, L (k + 1) l m (l.length : Int) = some (m, l)) (doneH : ∀ (l : List α) (m : Int) k, H (k + 1) l m (l.length : Int) = some m)
    (l : List α) (m : Int) (hl : l.length ≤ 1048576) (h0 : 0 ≤ m) (hm : m + c * l.length ≤ 900000000) :
    ∃ l', l'.length = l.length ∧ Ev (fun k => L k l m 0) (m + c * l.length, l') ∧ Ev (fun k => H k l' m 0) (m + c * l.length) := by
  have key : ∀ (d i : Nat) (l : List α) (m : Int), i + d = l.length → l.length ≤ 1048576 → 0 ≤ m → m + c * d ≤ 900000000 →
      ∃ l', l'.length = l.length ∧ l'.take i = l.take i ∧ Ev (fun k => L k l m (i : Int)) (m + c * d, l') ∧ Ev (fun k => H k l' m (i : Int)) (m + c * d) := by
    intro d
    induction d with
    | zero =>
      intro i l m hi hl h0 hm
      obtain rfl : i = l.length := by omega
      refine ⟨l, rfl, rfl, ?_, ?_⟩
      · simp only [Int.natCast_zero, Int.mul_zero, Int.add_zero]
        exact Ev.at_ (c := 1) (doneL l m)
      · simp only [Int.natCast_zero, Int.mul_zero, Int.add_zero]
        exact Ev.at_ (c := 1) (doneH l m)
    | succ d ih =>
      intro i l m hi hl h0 hm
      have hil : i < l.length := by omega
      have e : m + c + c * (d : Int) = m + c * ((d + 1 : Nat) : Int) := by
        rw [Int.natCast_add, Int.natCast_one, Int.mul_add, Int.mul_one]
        omega
      have hcd : 0 ≤ c * (d : Int) := Int.mul_nonneg hc (Int.natCast_nonneg d)
      obtain ⟨l', hl', ht, hL, hH⟩ := ih (i + 1) (l.set i (mk l[i] m)) (m + c) (by rw [List.length_set]; omega) (by rw [List.length_set]; omega) (by omega) (by omega)
      rw [List.length_set] at hl'
      rw [e] at hL hH
      have hg : l'[i]'(by omega) = mk l[i] m := by
        have h1 : (l'.take (i + 1))[i]'(by rw [List.length_take]; omega) = ((l.set i (mk l[i] m)).take (i + 1))[i]'(by rw [List.length_take, List.length_set]; omega) := by simp only [ht]
        simpa using h1
      refine ⟨l', hl', ?_, stepL l m i hil hl h0 (by omega) _ hL, stepH l' m i (by omega) l[i] hg (by omega) h0 (by omega) _ hH⟩
      have h2 := congrArg (List.take i) ht
      rw [List.take_take, List.take_take, Nat.min_eq_left (by omega)] at h2
      rw [h2, List.take_set_of_le (Nat.le_refl _)]
  obtain ⟨l', h1, _, h3, h4⟩ := key l.length 0 l m (by omega) hl h0 hm
  exact ⟨l', h1, h3, h4⟩
end Go.Proofs.Ytblejbgkcgajgaa.Q
end

section
namespace Go.Proofs.Ytblejbgkcgajgaa.Q
open Go.RowKit Go.Proofs.YtblejbgkcgajgaaW.PrintWords Go.Proofs.YtblejbgkcgajgaaW.PrintLast
set_option linter.unusedVariables false
set_option linter.unusedSimpArgs false
theorem markEntryS_ev (l : List S55) (m : Int) (hl : l.length ≤ 1048576) (h0 : 0 ≤ m) (hm : m + 2 * l.length ≤ 900000000) :
    ∃ l', l'.length = l.length ∧ Ev (fun k => laws_markEntryS.f k l m) (m + 2 * l.length, l') ∧ Ev (fun k => laws_heldEntryS.f k l' m) (m + 2 * l.length) := by
  obtain ⟨mt, hmt⟩ := markTexts
  have rd0 : ∀ (l : List S55) (i : Nat) (h : i < l.length), rd_T55 l (i : Int) = l[i] := fun l i h => by simp [rd_T55, List.getD_eq_getElem?_getD, List.getElem?_eq_getElem h]
  have rd1 : ∀ (l : List S55) (i : Nat) (v : S55) (h : i < l.length), rd_T55 (l.set i v) (i : Int) = v := fun l i v h => by rw [rd0 _ _ (by rw [List.length_set]; exact h)]; simp
  refine ev_mark_loop (L := laws_markEntryS.l0) (H := laws_heldEntryS.l0) (mk := fun x m => ⟨mt (m), m + 1⟩) (c := 2) (by omega) ?_ ?_ ?_ ?_ l m hl h0 hm
  · intro l m i hi hl h0 hm r hr
    have c1 : (i : Int) < (l.length : Int) := by omega
    have w := wrap_i (show i < 4611686018427387904 by omega)
    have w1 : wrap64 (m + 1) = m + 1 := by unfold wrap64; omega
    have w2 : wrap64 (m + 1 + 1) = m + 2 := by unfold wrap64; omega
    refine Ev.succ (g := fun k => laws_markEntryS.l0 k l m (i : Int)) ?_
    simp only [laws_markEntryS.l0, c1, if_true, Int.natCast_nonneg, Option.bind_some, Int.toNat_natCast, rd0 l i hi, rd1 l i _ hi, List.set_set, w, w1, w2]
    refine Ev.bind (hmt (m) (by omega) (by omega)) ?_
    (try simp only [if_true, rd0 l i hi, rd1 l i _ hi, List.set_set, Option.bind_some, w1, w2, bne_self_eq_false, Bool.false_eq_true, if_false])
    exact hr
  · intro l m i hi y hy hl h0 hm r hr
    have c1 : (i : Int) < (l.length : Int) := by omega
    have w := wrap_i (show i < 4611686018427387904 by omega)
    have w1 : wrap64 (m + 1) = m + 1 := by unfold wrap64; omega
    have w2 : wrap64 (m + 1 + 1) = m + 2 := by unfold wrap64; omega
    refine Ev.succ (g := fun k => laws_heldEntryS.l0 k l m (i : Int)) ?_
    simp only [laws_heldEntryS.l0, c1, if_true, Int.natCast_nonneg, rd0 l i hi, hy, w, w1, w2, bne_self_eq_false, Bool.false_eq_true, if_false]
    refine Ev.bind (hmt (m) (by omega) (by omega)) ?_
    (try simp only [if_true, rd0 l i hi, rd1 l i _ hi, List.set_set, Option.bind_some, w1, w2, bne_self_eq_false, Bool.false_eq_true, if_false])
    exact hr
  · intro l m k
    simp only [laws_markEntryS.l0]
    rw [if_neg (by omega)]
  · intro l m k
    simp only [laws_heldEntryS.l0]
    rw [if_neg (by omega)]
end Go.Proofs.Ytblejbgkcgajgaa.Q
end

section
namespace Go.Proofs.Ytblejbgkcgajgaa.Q
open Go.RowKit Go.Proofs.YtblejbgkcgajgaaW.PrintWords Go.Proofs.YtblejbgkcgajgaaW.PrintLast
set_option linter.unusedVariables false
set_option linter.unusedSimpArgs false
theorem rdStr {l : List ByteArray} {i : Nat} (h : i < l.length) : rdOf ByteArray.empty l (i : Int) = l[i] := by
  simp [rdOf, List.getD_eq_getElem?_getD, List.getElem?_eq_getElem h]
theorem eqStringS_ev (l : List ByteArray) (hl : l.length ≤ 1048576) : Ev (fun k => laws_eqStringS.f k l l) true := by
  obtain ⟨b, hb, h⟩ := ev_same_loop (L := fun k i => laws_eqStringS.l0 k l l i) (xs := l) (ys := l) rfl (fun i h1 h2 e k => by
    have c1 : (i : Int) < (l.length : Int) := by omega
    simp only [laws_eqStringS.l0, rdStr h1, c1, Int.natCast_nonneg, if_true, wrap_i (show i < 4611686018427387904 by omega)]) (fun i h1 h2 e k => absurd rfl e) (fun k => by
    simp only [laws_eqStringS.l0]
    rw [if_neg (by omega)])
  obtain rfl : b = true := h.mpr rfl
  exact Ev.congr (f := fun k => laws_eqStringS.l0 k l l 0) (fun k => by unfold laws_eqStringS.f; rw [if_pos rfl]) hb
end Go.Proofs.Ytblejbgkcgajgaa.Q
end

section
namespace Go.Proofs.Ytblejbgkcgajgaa.Q
open Go.RowKit Go.Proofs.YtblejbgkcgajgaaW.PrintWords Go.Proofs.YtblejbgkcgajgaaW.PrintLast
set_option linter.unusedVariables false
set_option linter.unusedSimpArgs false
theorem markStringS_ev (l : List ByteArray) (m : Int) (hl : l.length ≤ 1048576) (h0 : 0 ≤ m) (hm : m + 1 * l.length ≤ 900000000) :
    ∃ l', l'.length = l.length ∧ Ev (fun k => laws_markStringS.f k l m) (m + 1 * l.length, l') ∧ Ev (fun k => laws_heldStringS.f k l' m) (m + 1 * l.length) := by
  obtain ⟨mt, hmt⟩ := markTexts
  refine ev_mark_loop (L := laws_markStringS.l0) (H := laws_heldStringS.l0) (mk := fun _ m => mt m) (c := 1) (by omega) ?_ ?_ ?_ ?_ l m hl h0 hm
  · intro l m i hi hl h0 hm r hr
    have c1 : (i : Int) < (l.length : Int) := by omega
    have w := wrap_i (show i < 4611686018427387904 by omega)
    have w1 : wrap64 (m + 1) = m + 1 := by unfold wrap64; omega
    refine Ev.succ (g := fun k => laws_markStringS.l0 k l m (i : Int)) ?_
    simp only [laws_markStringS.l0, c1, if_true, Int.natCast_nonneg, Int.toNat_natCast, w, w1]
    refine Ev.bind (hmt m (by omega) (by omega)) ?_
    exact hr
  · intro l m i hi y hy hl h0 hm r hr
    have c1 : (i : Int) < (l.length : Int) := by omega
    have w := wrap_i (show i < 4611686018427387904 by omega)
    have w1 : wrap64 (m + 1) = m + 1 := by unfold wrap64; omega
    refine Ev.succ (g := fun k => laws_heldStringS.l0 k l m (i : Int)) ?_
    simp only [laws_heldStringS.l0, c1, if_true, Int.natCast_nonneg, rdStr hi, hy, w, w1]
    refine Ev.bind (hmt m (by omega) (by omega)) ?_
    simp only [if_true]
    exact hr
  · intro l m k
    simp only [laws_markStringS.l0]
    rw [if_neg (by omega)]
  · intro l m k
    simp only [laws_heldStringS.l0]
    rw [if_neg (by omega)]
end Go.Proofs.Ytblejbgkcgajgaa.Q
end

section
namespace Go.Proofs.Ytblejbgkcgajgaa.Pure
open Go.RowKit Go.Proofs.Ytblejbgkcgajgaa.Q Go.Proofs.YtblejbgkcgajgaaW.PrintWords Go.Proofs.YtblejbgkcgajgaaW.PrintLast
set_option linter.unusedVariables false
set_option linter.unusedSimpArgs false
theorem rdEdit {l : List S62} {i : Nat} (h : i < l.length) : rd_T62 l (i : Int) = l[i] := by
  simp [rd_T62, List.getD_eq_getElem?_getD, List.getElem?_eq_getElem h]
theorem keys_impl (l : List S62) (hl : l.length ≤ 1048576) : ∀ (d i : Nat) (acc : List ByteArray), i + d = l.length → acc.length + d ≤ 100000000 →
    Ev (fun k => impl_keysOf.l0 k acc l (l.length : Int) (i : Int)) (acc ++ (l.drop i).map (fun x => x.f0)) := by
  intro d
  induction d with
  | zero =>
    intro i acc hi _
    obtain rfl : i = l.length := by omega
    have c : ¬ ((l.length : Int) < (l.length : Int)) := by omega
    refine Ev.at_ (c := 1) (fun k => ?_)
    simp only [impl_keysOf.l0, if_neg c, List.drop_length, List.map_nil, List.append_nil]
  | succ d ih =>
    intro i acc hi hacc
    have hil : i < l.length := by omega
    have c : (i : Int) < (l.length : Int) := by omega
    have hlen : acc.length < 8796093022208 := by omega
    have i0 : (0 : Int) ≤ (i : Int) := Int.natCast_nonneg _
    have e : acc ++ (l[i].f0 :: (l.drop (i + 1)).map (fun x => x.f0)) = (acc ++ [l[i].f0]) ++ (l.drop (i + 1)).map (fun x => x.f0) := by simp
    rw [List.drop_eq_getElem_cons hil, List.map_cons, e]
    refine Ev.shift (c := 1) (d := 0) (fun k => ?_) (ih (i + 1) (acc ++ [l[i].f0]) (by omega) (by rw [List.length_append]; simp only [List.length_cons, List.length_nil]; omega))
    simp only [impl_keysOf.l0, if_pos c, if_pos i0, if_pos hlen, rdEdit hil, wrap_i (show i < 4611686018427387904 by omega), Nat.add_zero]
theorem keys_spec (l : List S62) (hl : l.length ≤ 1048576) : ∀ (d i : Nat) (acc : List ByteArray), i + d = l.length → acc.length + d ≤ 100000000 →
    Ev (fun k => spec_l02Keys.l0 k l acc (i : Int)) (acc ++ (l.drop i).map (fun x => x.f0)) := by
  intro d
  induction d with
  | zero =>
    intro i acc hi _
    obtain rfl : i = l.length := by omega
    have c : ¬ ((l.length : Int) < (l.length : Int)) := by omega
    refine Ev.at_ (c := 1) (fun k => ?_)
    simp only [spec_l02Keys.l0, if_neg c, List.drop_length, List.map_nil, List.append_nil]
  | succ d ih =>
    intro i acc hi hacc
    have hil : i < l.length := by omega
    have c : (i : Int) < (l.length : Int) := by omega
    have hlen : acc.length < 8796093022208 := by omega
    have i0 : (0 : Int) ≤ (i : Int) := Int.natCast_nonneg _
    have e : acc ++ (l[i].f0 :: (l.drop (i + 1)).map (fun x => x.f0)) = (acc ++ [l[i].f0]) ++ (l.drop (i + 1)).map (fun x => x.f0) := by simp
    rw [List.drop_eq_getElem_cons hil, List.map_cons, e]
    refine Ev.shift (c := 1) (d := 0) (fun k => ?_) (ih (i + 1) (acc ++ [l[i].f0]) (by omega) (by rw [List.length_append]; simp only [List.length_cons, List.length_nil]; omega))
    simp only [spec_l02Keys.l0, if_pos c, if_pos i0, if_pos hlen, rdEdit hil, wrap_i (show i < 4611686018427387904 by omega), Nat.add_zero]
theorem changed_both (a b : List S55) (ha : a.length ≤ 1048576) (hb : b.length ≤ 1048576) :
    ∃ r c, Ev (fun k => spec_Changed.f k a b) (r, c) ∧ Ev (fun k => impl_Changed.f k a b) (r, c) ∧ r.length ≤ 1048576 := by
  by_cases hf : fit2 a b
  · have c1 : ¬ ((a.length : Int) > 4096) := by have := hf.1; omega
    have c2 : ¬ ((b.length : Int) > 4096) := by have := hf.2; omega
    have hs : ∀ v, Ev (fun k => spec_Changed.j0 k a b false) v → Ev (fun k => spec_Changed.f k a b) v := fun v h => Ev.congr (fun k => by unfold spec_Changed.f; rw [if_neg c1, decide_eq_false c2]) h
    have hm := areMaps_small hf
    cases h : (mapB a && mapB b) with
    | false =>
      rw [h] at hm
      refine ⟨[], 1, hs _ (Ev.at_ (c := 2) (fun k => ?_)), Ev.at_ (c := 0) (fun k => ?_), by simp⟩
      · simp only [spec_Changed.j0, Bool.false_eq_true, if_false, spec_l01OK.f, Option.bind_some]
        cases h1 : mapB a with
        | false => simp only [Bool.false_eq_true, if_false, spec_Changed.j1, if_true]
        | true =>
          rw [h1, Bool.true_and] at h
          simp only [h, Bool.not_false, if_true, spec_Changed.j1]
      · simp only [impl_Changed.f, hm, Option.bind_some, Bool.false_eq_true, if_false]
        rfl
    | true =>
      rw [h] at hm
      obtain ⟨h1, h2⟩ := (Bool.and_eq_true _ _).mp h
      have e1 := l01Diff_ev a b ha hb
      have e2 := diff_ev a b (mapB_rise h1) (mapB_rise h2) ha hb
      have l1 := mapB_len h1
      have l2 := mapB_len h2
      have hl := diffM_len a b
      have k1 := keys_spec (diffM a b) (by omega) (diffM a b).length 0 [] (by omega) (by simp only [List.length_nil]; omega)
      have k2 := keys_impl (diffM a b) (by omega) (diffM a b).length 0 [] (by omega) (by simp only [List.length_nil]; omega)
      rw [List.drop_zero, List.nil_append] at k1 k2
      refine ⟨(diffM a b).map (fun x => x.f0), 0, hs _ ?_, ?_, by rw [List.length_map]; omega⟩
      · refine Ev.succ ?_
        simp only [spec_Changed.j0, Bool.false_eq_true, if_false, spec_l01OK.f, Option.bind_some, h1, h2, if_true, Bool.not_true]
        refine Ev.succ ?_
        simp only [spec_Changed.j1, Bool.false_eq_true, if_false]
        exact Ev.bind e1 (Ev.bind k1 (Ev.now _))
      · simp only [impl_Changed.f, hm, Option.bind_some, if_true]
        exact Ev.bind e2 (Ev.bind k2 (Ev.now _))
  · refine ⟨[], 2, Ev.at_ (c := 1) (fun k => ?_), Ev.at_ (c := 0) (fun k => ?_), by simp⟩
    · unfold spec_Changed.f
      by_cases c1 : (a.length : Int) > 4096
      · rw [if_pos c1]
        simp only [spec_Changed.j0, if_true]
      · have c2 : (b.length : Int) > 4096 := by unfold fit2 at hf; omega
        rw [if_neg c1, decide_eq_true c2]
        simp only [spec_Changed.j0, if_true]
    · have c : ¬ ((2 : Int) = 0) := by decide
      simp only [impl_Changed.f, areMaps_big hf, Option.bind_some, if_neg c]
theorem FnExactChanged : laws_FnExactChanged.Pure := by
  intro l0 l1 w0 w1
  refine Ev.rounds ?_
  unfold laws_FnExactChanged.f
  obtain ⟨r, hr, hrl, hrs⟩ := szEntryS_ev l0 w0.1 w0.2 1048576 (by omega) (by omega)
  refine Ev.bind hr ?_
  by_cases hn : r < 0
  · simp only [hn, if_true]
    exact Ev.now _
  simp only [hn, if_false]
  have hl := hrs (by omega)
  obtain ⟨r', hr', hrl', hrs'⟩ := szEntryS_ev l1 w1.1 w1.2 r (by omega) (by omega)
  refine Ev.bind hr' ?_
  by_cases hn' : r' < 0
  · simp only [hn', if_true]
    exact Ev.now _
  simp only [hn', if_false]
  have hl' := hrs' (by omega)
  have ht := toEntryS_ev l0 hl
  have hu := toEntryS_ev l1 hl'
  have hl2 : (l0.map cvEntry).length ≤ 1048576 := by simpa using hl
  have hd2 : (l1.map cvEntry).length ≤ 1048576 := by simpa using hl'
  obtain ⟨res, code, hs, hi, hres⟩ := changed_both (l0.map cvEntry) (l1.map cvEntry) hl2 hd2
  refine Ev.bind ht (Ev.bind hu (Ev.bind hs (Ev.bind ht (Ev.bind hu (Ev.bind hi (Ev.bind (eqStringS_ev res hres) ?_))))))
  simp only [if_true, bne_self_eq_false]
  refine Ev.succ ?_
  simp only [laws_FnExactChanged.j0, Bool.false_eq_true, if_false]
  refine Ev.bind ht (Ev.bind (eqEntryS_ev _ hl2) ?_)
  simp only [if_true]
  refine Ev.bind hu (Ev.bind (eqEntryS_ev _ hd2) ?_)
  simp only [if_true]
  obtain ⟨la, _, hmA, _⟩ := markEntryS_ev (l0.map cvEntry) 1 hl2 (by omega) (by omega)
  refine Ev.bind hmA ?_
  simp only []
  obtain ⟨lb, _, hmB, _⟩ := markEntryS_ev (l1.map cvEntry) (1 + 2 * ((l0.map cvEntry).length : Int)) hd2 (by omega) (by omega)
  refine Ev.bind hmB ?_
  have n1 : ¬ (1 + 2 * ((l0.map cvEntry).length : Int) + 2 * ((l1.map cvEntry).length : Int) < 0) := by omega
  simp only [n1, if_false]
  refine Ev.bind (eqStringS_ev res hres) ?_
  simp only [if_true, bne_self_eq_false]
  refine Ev.succ ?_
  simp only [laws_FnExactChanged.j1, Bool.false_eq_true, if_false]
  obtain ⟨lr, _, hmR, hhR⟩ := markStringS_ev res 1 hres (by omega) (by omega)
  have n2 : ¬ (1 + 1 * (res.length : Int) < 0) := by omega
  refine Ev.bind hmR (Ev.bind hhR ?_)
  simp only [n2, if_false, if_true]
  refine Ev.bind ht (Ev.bind hu (Ev.bind hi (Ev.bind (eqStringS_ev res hres) ?_)))
  simp only [if_true, bne_self_eq_false]
  refine Ev.succ ?_
  simp only [laws_FnExactChanged.j2, Bool.false_eq_true, if_false]
  refine Ev.bind hhR ?_
  simp only [n2, if_false, if_true]
  exact Ev.now _
end Go.Proofs.Ytblejbgkcgajgaa.Pure
end
