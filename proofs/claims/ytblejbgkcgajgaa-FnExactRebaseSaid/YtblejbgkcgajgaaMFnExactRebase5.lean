/- Parts of the proof of the law FnExactRebase, joined into one text. -/
import Derived.Test.YtblejbgkcgajgaaMFnExactRebase4
section
namespace Go.Proofs.Ytblejbgkcgajgaa.Q
open Go.RowKit Go.Proofs.YtblejbgkcgajgaaW.PrintWords Go.Proofs.YtblejbgkcgajgaaW.PrintLast Go.Proofs.YtblejbgkcgajgaaW.PrintMore
attribute [local go_sem] max2_int min2_int max_two min_two max_three min_three max_four min_four   -- for this text's walks alone
set_option linter.unusedVariables false
set_option linter.unusedSimpArgs false
attribute [local go_sem] bin_leq bin_gtr bin_geq
mutual
def impl_diff.l0 : Nat → List (S55) → List (S55) → List (S62) → List (S55) → Int → Int → Option ((List (S62)))
  | 0, _, _, _, _, _, _ => none
  | k + 1, x0, x1, x5, x14, x15, x16 => if x16 < x15 then (if 0 ≤ x16 then (if x16 < (x14.length : Int) then ((impl_find.f x0 ((rd_T55 x14 x16).f0)).bind fun bt181 => (if bt181.2 = true then (if 0 ≤ bt181.1 then (if bt181.1 < (x0.length : Int) then (if ((rd_T55 x0 bt181.1).f1) = ((rd_T55 x14 x16).f1) then (impl_diff.l0 k x0 x1 x5 x14 x15 (wrap64 (x16 + 1))) else (if x5.length < 4398046511104 then (impl_diff.l0 k x0 x1 (x5 ++ [(⟨(rd_T55 x14 x16).f0, (rd_T55 x14 x16).f1, false⟩ : S62)]) x14 x15 (wrap64 (x16 + 1))) else (none))) else (none)) else (none)) else (if x5.length < 4398046511104 then (impl_diff.l0 k x0 x1 (x5 ++ [(⟨(rd_T55 x14 x16).f0, (rd_T55 x14 x16).f1, false⟩ : S62)]) x14 x15 (wrap64 (x16 + 1))) else (none)))) else (none)) else (none)) else (impl_diff.l1 k x1 x5 x0 (x0.length : Int) 0)
def impl_diff.l1 : Nat → List (S55) → List (S62) → List (S55) → Int → Int → Option ((List (S62)))
  | 0, _, _, _, _, _ => none
  | k + 1, x1, x5, x48, x49, x50 => if x50 < x49 then (if 0 ≤ x50 then (if x50 < (x48.length : Int) then ((impl_find.f x1 ((rd_T55 x48 x50).f0)).bind fun bt192 => (if bt192.2 = true then (impl_diff.l1 k x1 x5 x48 x49 (wrap64 (x50 + 1))) else (if x5.length < 4398046511104 then (impl_diff.l1 k x1 (x5 ++ [(⟨(rd_T55 x48 x50).f0, 0, true⟩ : S62)]) x48 x49 (wrap64 (x50 + 1))) else (none)))) else (none)) else (none)) else ((sort_Edit.f x5).bind fun t197 => (some t197))
end
def impl_diff.f (k : Nat) (l0 : List (S55)) (l1 : List (S55)) : Option ((List (S62))) := impl_diff.l0 k l0 l1 ([] : List (S62)) l1 (l1.length : Int) 0
set_option maxHeartbeats 8000000 in
set_option maxRecDepth 100000 in
theorem impl_diff.calls (k : Nat) (A0 : Option Addr) (c0 : Nat) (l0 : List (S55)) (A1 : Option Addr) (c1 : Nat) (l1 : List (S55)) (r : List (S62)) (w : World) (hr0 : Kd.C k55 w A0 l0.length l0) (hc0 : l0.length ≤ c0) (hr1 : Kd.C k55 w A1 l1.length l1) (hc1 : l1.length ≤ c1) (h : impl_diff.f k l0 l1 = some r) :
    Calls Try.prog 38 #[.slice A0 l0.length c0, .slice A1 l1.length c1] w fun e w' => ∃ v0_ : Value, e = .returned (v0_) ∧ Kd.R k62 62 w' w.heap.size (fun _ => True) v0_ r ∧ Below w.heap.size w w' := by
  have hu55 := Try.underlying55
  have hu62 := Try.underlying62
  have HR0 := Aside0.mk hr0
  have HC0 := Aside0.mk hc0
  clear hr0 hc0
  have HR1 := Aside0.mk hr1
  have HC1 := Aside0.mk hc1
  clear hr1 hc1
  have HB := Aside0.mk (Below.refl w.heap.size w)
  have H : (impl_diff.l0 k l0 l1 ([] : List (S62)) l1 (l1.length : Int) 0) = some r := h
  clear h
  have H' := Aside0.mk H
  clear H
  go_enter Try.func38, Try.ntmps38
  go_wp2
  repeat (go_quiet (fail); try go_wp2)
  go_loopg [5, 16] k (fun kq v5 v16 w' => ∃ (x5_1 : List (S62)) (x16_1 : Int), v16 = .int .i64 x16_1 ∧ Aside0 (impl_diff.l0 kq l0 l1 x5_1 l1 (l1.length : Int) x16_1 = some r) ∧ Aside0 (kq ≤ k) ∧ Aside0 (Kd.R k62 62 w' w.heap.size (fun _ => True) v5 x5_1) ∧ Aside0 (Below w.heap.size w w'))
  case atStart => exact ⟨(([] : List (S62))), (0), vE, H', ⟨Nat.le_refl _⟩, ⟨by first | exact Kd.R_nil _ _ _ _ _ | exact Kd.N_nil _ _ _ _ _ | exact Kd.V_nil _ _ _ _ _ | exact Kd.Q_nil _ _ _ _ _ | exact Kd.S_nil _ _ _ _ _⟩, ⟨bW⟩⟩
  case round =>
    clear H'
    try clear c1
    try clear p2
    obtain ⟨x5_1, x16_1, rfl, HA, HK1, HO_5, HB⟩ := hrel
    cases gk with
    | zero => exact absurd HA.out (by simp [impl_diff.l0])
    | succ k1 =>
      have H := HA.out
      clear HA
      simp only [impl_diff.l0] at H
      by_cases c3 : x16_1 < (l1.length : Int)
      · rw [if_pos c3] at H
        have c3b0 : decide (x16_1 < (l1.length : Int)) = true := decide_eq_true c3
        clear c3
        by_cases c4 : 0 ≤ x16_1
        · rw [if_pos c4] at H
          have c4b0 : decide (0 ≤ x16_1) = true := decide_eq_true c4
          clear c4
          by_cases c5 : x16_1 < (l1.length : Int)
          · rw [if_pos c5] at H
            have c5b0 : decide (x16_1 < (l1.length : Int)) = true := decide_eq_true c5
            clear c5
            replace H := Option.bind_eq_some_iff.mp H
            obtain ⟨⟨t181, t182⟩, A60, H⟩ := H
            replace H : (if t182 = true then (if 0 ≤ t181 then (if t181 < (l0.length : Int) then (if ((rd_T55 l0 t181).f1) = ((rd_T55 l1 x16_1).f1) then (impl_diff.l0 k1 l0 l1 x5_1 l1 (l1.length : Int) (wrap64 (x16_1 + 1))) else (if x5_1.length < 4398046511104 then (impl_diff.l0 k1 l0 l1 (x5_1 ++ [(⟨(rd_T55 l1 x16_1).f0, (rd_T55 l1 x16_1).f1, false⟩ : S62)]) l1 (l1.length : Int) (wrap64 (x16_1 + 1))) else (none))) else (none)) else (none)) else (if x5_1.length < 4398046511104 then (impl_diff.l0 k1 l0 l1 (x5_1 ++ [(⟨(rd_T55 l1 x16_1).f0, (rd_T55 l1 x16_1).f1, false⟩ : S62)]) l1 (l1.length : Int) (wrap64 (x16_1 + 1))) else (none))) = some r := H
            have A6 := Aside0.mk A60
            clear A60
            by_cases c7 : t182 = true
            · subst c7
              have H1 : (if 0 ≤ t181 then (if t181 < (l0.length : Int) then (if ((rd_T55 l0 t181).f1) = ((rd_T55 l1 x16_1).f1) then (impl_diff.l0 k1 l0 l1 x5_1 l1 (l1.length : Int) (wrap64 (x16_1 + 1))) else (if x5_1.length < 4398046511104 then (impl_diff.l0 k1 l0 l1 (x5_1 ++ [(⟨(rd_T55 l1 x16_1).f0, (rd_T55 l1 x16_1).f1, false⟩ : S62)]) l1 (l1.length : Int) (wrap64 (x16_1 + 1))) else (none))) else (none)) else (none)) = some r := by rw [if_pos rfl] at H; exact H
              clear H
              have H := H1
              clear H1
              by_cases c8 : 0 ≤ t181
              · rw [if_pos c8] at H
                have c8b0 : decide (0 ≤ t181) = true := decide_eq_true c8
                clear c8
                by_cases c9 : t181 < (l0.length : Int)
                · rw [if_pos c9] at H
                  have c9b0 : decide (t181 < (l0.length : Int)) = true := decide_eq_true c9
                  clear c9
                  by_cases c10 : ((rd_T55 l0 t181).f1) = ((rd_T55 l1 x16_1).f1)
                  · rw [if_pos c10] at H
                    have c10b0 : (((rd_T55 l0 t181).f1) == ((rd_T55 l1 x16_1).f1)) = true := beq_iff_eq.mpr c10
                    have c10b1 : (((rd_T55 l0 t181).f1) != ((rd_T55 l1 x16_1).f1)) = false := bne_eq_false_iff_eq.mpr c10
                    clear c10
                    have H' := Aside0.mk H
                    clear H
                    have p179 : 0 ≤ (x16_1 : Int) := odt
                    have q179 : x16_1 < (l1.length : Int) := odt
                    obtain ⟨ad179, e179, hx179_0, hx179_1⟩ := at_T55 HR1.out x16_1 p179 q179
                    cases e179
                    replace hx179_0 := (HB.out.cell (World.block_lt_of_cell? w _ hx179_0)).trans hx179_0
                    replace hx179_1 := (HB.out.cell (World.block_lt_of_cell? w _ hx179_1)).trans hx179_1
                    replace p179 := eq_true p179
                    replace q179 := eq_true q179
                    go_wp2_with (first | ((with_reducible refine gate_dst (N := 7) rfl ?_); refine bE (N := 7) (cs := #[.string (⟨#[]⟩ : ByteArray), .int .i64 0]) (t := 55) ?_; intro gb180 hg w11 hbox hb; have n0_ := Aside0.mk (Kd.R_below (pR HO_5) hb); have n1_ := Aside0.mk (below_step (w := w) bW hb); have n2_ := Aside0.mk (hbox); have n3_ := Aside0.mk (gS (w := w) hg); have n4_ := n3_; clear HO_5; clear HB; have HO_5 := n0_; have HB := n1_; have BK180 := n2_; have GW180 := n3_; have GE180 := n4_; clear n0_ n1_ n2_ n3_ n4_; clear hb hbox hg; obtain ⟨hcz12_0, hcz12_1⟩ := cz2 BK180; obtain ⟨hfz12_0, hfz12_1⟩ := fz2 BK180) | (go_at_call 57; (with_reducible refine (impl_find.calls _ _ l0 ((rd_T55 l1 x16_1).f0) t181 true _ ?side1 ?side2 A6.out).mono ?_); (case side1 => exact Kd.C_below HR0.out bW); (case side2 => exact HC0.out); rintro e w13 ⟨rfl, hb⟩; have n0_ := Aside0.mk (Kd.R_below (by (with_reducible repeat (first | apply Kd.R_alloc | apply Kd.R_drewN | apply Kd.R_drew)); exact (Kd.R_mono (Kd.R_far (p := ⟨gb180, 1, none⟩) (Kd.R_far (p := ⟨gb180, 0, none⟩) (Kd.R_types HO_5.out BK180.out (by decide)) (fun _ hk => hk.2) (.string ((rd_T55 l1 x16_1).f0))) (fun _ hk => hk.2) (.int .i64 ((rd_T55 l1 x16_1).f1))) (fun _ h_ => h_.1))) hb); have n1_ := Aside0.mk (blk_below (g := gb180) (o := .cells #[.string ((rd_T55 l1 x16_1).f0), .int .i64 ((rd_T55 l1 x16_1).f1)] 55 (0, 0)) (by (with_reducible repeat (first | refine blk_drewN ?_ _ | refine blk_drew ?_ | refine blk_alloc ?_ _)); refine blk_put (cs := #[.string ((rd_T55 l1 x16_1).f0), .int .i64 0]) ?_ 1 _ rfl; (with_reducible repeat (first | refine blk_drewN ?_ _ | refine blk_drew ?_ | refine blk_alloc ?_ _)); refine blk_put (cs := #[.string (⟨#[]⟩ : ByteArray), .int .i64 0]) ?_ 0 _ rfl; (with_reducible repeat (first | refine blk_drewN ?_ _ | refine blk_drew ?_ | refine blk_alloc ?_ _)); exact BK180.out) hb); have n2_ := Aside0.mk (below_step (w := w) bW hb); clear HO_5; clear BK180; clear HB; have HO_5 := n0_; have BK180 := n1_; have HB := n2_; clear n0_ n1_ n2_; (try clear hb); (try clear hb2); (try clear hk); (try clear hi); have p183 : 0 ≤ (t181 : Int) := odt; have q183 : t181 < (l0.length : Int) := odt; obtain ⟨ad183, e183, hx183_0, hx183_1⟩ := at_T55 HR0.out t181 p183 q183; cases e183; replace hx183_0 := (HB.out.cell (World.block_lt_of_cell? w _ hx183_0)).trans hx183_0; replace hx183_1 := (HB.out.cell (World.block_lt_of_cell? w _ hx183_1)).trans hx183_1; replace p183 := eq_true p183; replace q183 := eq_true q183; obtain ⟨hcz14_0, hcz14_1⟩ := cz2 BK180; obtain ⟨hfz14_0, hfz14_1⟩ := fz2 BK180))
                    repeat (go_quiet (first | ((with_reducible refine gate_dst (N := 7) rfl ?_); refine bE (N := 7) (cs := #[.string (⟨#[]⟩ : ByteArray), .int .i64 0]) (t := 55) ?_; intro gb180 hg w11 hbox hb; have n0_ := Aside0.mk (Kd.R_below (pR HO_5) hb); have n1_ := Aside0.mk (below_step (w := w) bW hb); have n2_ := Aside0.mk (hbox); have n3_ := Aside0.mk (gS (w := w) hg); have n4_ := n3_; clear HO_5; clear HB; have HO_5 := n0_; have HB := n1_; have BK180 := n2_; have GW180 := n3_; have GE180 := n4_; clear n0_ n1_ n2_ n3_ n4_; clear hb hbox hg; obtain ⟨hcz12_0, hcz12_1⟩ := cz2 BK180; obtain ⟨hfz12_0, hfz12_1⟩ := fz2 BK180) | (go_at_call 57; (with_reducible refine (impl_find.calls _ _ l0 ((rd_T55 l1 x16_1).f0) t181 true _ ?side1 ?side2 A6.out).mono ?_); (case side1 => exact Kd.C_below HR0.out bW); (case side2 => exact HC0.out); rintro e w13 ⟨rfl, hb⟩; have n0_ := Aside0.mk (Kd.R_below (by (with_reducible repeat (first | apply Kd.R_alloc | apply Kd.R_drewN | apply Kd.R_drew)); exact (Kd.R_mono (Kd.R_far (p := ⟨gb180, 1, none⟩) (Kd.R_far (p := ⟨gb180, 0, none⟩) (Kd.R_types HO_5.out BK180.out (by decide)) (fun _ hk => hk.2) (.string ((rd_T55 l1 x16_1).f0))) (fun _ hk => hk.2) (.int .i64 ((rd_T55 l1 x16_1).f1))) (fun _ h_ => h_.1))) hb); have n1_ := Aside0.mk (blk_below (g := gb180) (o := .cells #[.string ((rd_T55 l1 x16_1).f0), .int .i64 ((rd_T55 l1 x16_1).f1)] 55 (0, 0)) (by (with_reducible repeat (first | refine blk_drewN ?_ _ | refine blk_drew ?_ | refine blk_alloc ?_ _)); refine blk_put (cs := #[.string ((rd_T55 l1 x16_1).f0), .int .i64 0]) ?_ 1 _ rfl; (with_reducible repeat (first | refine blk_drewN ?_ _ | refine blk_drew ?_ | refine blk_alloc ?_ _)); refine blk_put (cs := #[.string (⟨#[]⟩ : ByteArray), .int .i64 0]) ?_ 0 _ rfl; (with_reducible repeat (first | refine blk_drewN ?_ _ | refine blk_drew ?_ | refine blk_alloc ?_ _)); exact BK180.out) hb); have n2_ := Aside0.mk (below_step (w := w) bW hb); clear HO_5; clear BK180; clear HB; have HO_5 := n0_; have BK180 := n1_; have HB := n2_; clear n0_ n1_ n2_; (try clear hb); (try clear hb2); (try clear hk); (try clear hi); have p183 : 0 ≤ (t181 : Int) := odt; have q183 : t181 < (l0.length : Int) := odt; obtain ⟨ad183, e183, hx183_0, hx183_1⟩ := at_T55 HR0.out t181 p183 q183; cases e183; replace hx183_0 := (HB.out.cell (World.block_lt_of_cell? w _ hx183_0)).trans hx183_0; replace hx183_1 := (HB.out.cell (World.block_lt_of_cell? w _ hx183_1)).trans hx183_1; replace p183 := eq_true p183; replace q183 := eq_true q183; obtain ⟨hcz14_0, hcz14_1⟩ := cz2 BK180; obtain ⟨hfz14_0, hfz14_1⟩ := fz2 BK180)); try go_wp2_with (first | ((with_reducible refine gate_dst (N := 7) rfl ?_); refine bE (N := 7) (cs := #[.string (⟨#[]⟩ : ByteArray), .int .i64 0]) (t := 55) ?_; intro gb180 hg w11 hbox hb; have n0_ := Aside0.mk (Kd.R_below (pR HO_5) hb); have n1_ := Aside0.mk (below_step (w := w) bW hb); have n2_ := Aside0.mk (hbox); have n3_ := Aside0.mk (gS (w := w) hg); have n4_ := n3_; clear HO_5; clear HB; have HO_5 := n0_; have HB := n1_; have BK180 := n2_; have GW180 := n3_; have GE180 := n4_; clear n0_ n1_ n2_ n3_ n4_; clear hb hbox hg; obtain ⟨hcz12_0, hcz12_1⟩ := cz2 BK180; obtain ⟨hfz12_0, hfz12_1⟩ := fz2 BK180) | (go_at_call 57; (with_reducible refine (impl_find.calls _ _ l0 ((rd_T55 l1 x16_1).f0) t181 true _ ?side1 ?side2 A6.out).mono ?_); (case side1 => exact Kd.C_below HR0.out bW); (case side2 => exact HC0.out); rintro e w13 ⟨rfl, hb⟩; have n0_ := Aside0.mk (Kd.R_below (by (with_reducible repeat (first | apply Kd.R_alloc | apply Kd.R_drewN | apply Kd.R_drew)); exact (Kd.R_mono (Kd.R_far (p := ⟨gb180, 1, none⟩) (Kd.R_far (p := ⟨gb180, 0, none⟩) (Kd.R_types HO_5.out BK180.out (by decide)) (fun _ hk => hk.2) (.string ((rd_T55 l1 x16_1).f0))) (fun _ hk => hk.2) (.int .i64 ((rd_T55 l1 x16_1).f1))) (fun _ h_ => h_.1))) hb); have n1_ := Aside0.mk (blk_below (g := gb180) (o := .cells #[.string ((rd_T55 l1 x16_1).f0), .int .i64 ((rd_T55 l1 x16_1).f1)] 55 (0, 0)) (by (with_reducible repeat (first | refine blk_drewN ?_ _ | refine blk_drew ?_ | refine blk_alloc ?_ _)); refine blk_put (cs := #[.string ((rd_T55 l1 x16_1).f0), .int .i64 0]) ?_ 1 _ rfl; (with_reducible repeat (first | refine blk_drewN ?_ _ | refine blk_drew ?_ | refine blk_alloc ?_ _)); refine blk_put (cs := #[.string (⟨#[]⟩ : ByteArray), .int .i64 0]) ?_ 0 _ rfl; (with_reducible repeat (first | refine blk_drewN ?_ _ | refine blk_drew ?_ | refine blk_alloc ?_ _)); exact BK180.out) hb); have n2_ := Aside0.mk (below_step (w := w) bW hb); clear HO_5; clear BK180; clear HB; have HO_5 := n0_; have BK180 := n1_; have HB := n2_; clear n0_ n1_ n2_; (try clear hb); (try clear hb2); (try clear hk); (try clear hi); have p183 : 0 ≤ (t181 : Int) := odt; have q183 : t181 < (l0.length : Int) := odt; obtain ⟨ad183, e183, hx183_0, hx183_1⟩ := at_T55 HR0.out t181 p183 q183; cases e183; replace hx183_0 := (HB.out.cell (World.block_lt_of_cell? w _ hx183_0)).trans hx183_0; replace hx183_1 := (HB.out.cell (World.block_lt_of_cell? w _ hx183_1)).trans hx183_1; replace p183 := eq_true p183; replace q183 := eq_true q183; obtain ⟨hcz14_0, hcz14_1⟩ := cz2 BK180; obtain ⟨hfz14_0, hfz14_1⟩ := fz2 BK180)))
                    go_roundg k1
                    case measure => have := HK1.out; omega
                    case rel => exact ⟨(x5_1), (wrap64 (x16_1 + 1)), vE, H', ⟨by have := HK1.out; omega⟩, ⟨by (with_reducible repeat (first | apply Kd.R_alloc | apply Kd.R_drewN | apply Kd.R_drew)); exact HO_5.out⟩, ⟨bW⟩⟩
                  · rw [if_neg c10] at H
                    have c10b0 : (((rd_T55 l0 t181).f1) == ((rd_T55 l1 x16_1).f1)) = false := beq_eq_false_iff_ne.mpr c10
                    have c10b1 : (((rd_T55 l0 t181).f1) != ((rd_T55 l1 x16_1).f1)) = true := bne_iff_ne.mpr c10
                    by_cases c15 : x5_1.length < 4398046511104
                    · rw [if_pos c15] at H
                      have LMc15 := Aside0.mk c15
                      clear c15
                      obtain ⟨y184, hy184⟩ : ∃ y_ : List (S62), y_ = (x5_1 ++ [(⟨(rd_T55 l1 x16_1).f0, (rd_T55 l1 x16_1).f1, false⟩ : S62)]) := ⟨_, rfl⟩
                      replace H : (impl_diff.l0 k1 l0 l1 y184 l1 (l1.length : Int) (wrap64 (x16_1 + 1))) = some r := by first | (rw [hy184]; with_reducible exact H) | (have H2_ := (Option.bind_some _ _).symm.trans H; rw [hy184]; with_reducible exact H2_) | (have H2_ := (Option.bind_some _ _).symm.trans H; with_reducible exact H2_) | with_reducible exact H | (rw [hy184]; exact H) | exact H
                      have Ny184 := Aside0.mk hy184
                      clear hy184
                      have H' := Aside0.mk H
                      clear H
                      have p179 : 0 ≤ (x16_1 : Int) := odt
                      have q179 : x16_1 < (l1.length : Int) := odt
                      obtain ⟨ad179, e179, hx179_0, hx179_1⟩ := at_T55 HR1.out x16_1 p179 q179
                      cases e179
                      replace hx179_0 := (HB.out.cell (World.block_lt_of_cell? w _ hx179_0)).trans hx179_0
                      replace hx179_1 := (HB.out.cell (World.block_lt_of_cell? w _ hx179_1)).trans hx179_1
                      replace p179 := eq_true p179
                      replace q179 := eq_true q179
                      go_wp2_with (first | ((with_reducible refine gate_dst (N := 7) rfl ?_); refine bE (N := 7) (cs := #[.string (⟨#[]⟩ : ByteArray), .int .i64 0]) (t := 55) ?_; intro gb180 hg w16 hbox hb; have n0_ := Aside0.mk (Kd.R_below (pR HO_5) hb); have n1_ := Aside0.mk (below_step (w := w) bW hb); have n2_ := Aside0.mk (hbox); have n3_ := Aside0.mk (gS (w := w) hg); have n4_ := n3_; clear HO_5; clear HB; have HO_5 := n0_; have HB := n1_; have BK180 := n2_; have GW180 := n3_; have GE180 := n4_; clear n0_ n1_ n2_ n3_ n4_; clear hb hbox hg; obtain ⟨hcz17_0, hcz17_1⟩ := cz2 BK180; obtain ⟨hfz17_0, hfz17_1⟩ := fz2 BK180) | (go_at_call 57; (with_reducible refine (impl_find.calls _ _ l0 ((rd_T55 l1 x16_1).f0) t181 true _ ?side1 ?side2 A6.out).mono ?_); (case side1 => exact Kd.C_below HR0.out bW); (case side2 => exact HC0.out); rintro e w18 ⟨rfl, hb⟩; have n0_ := Aside0.mk (Kd.R_below (by (with_reducible repeat (first | apply Kd.R_alloc | apply Kd.R_drewN | apply Kd.R_drew)); exact (Kd.R_mono (Kd.R_far (p := ⟨gb180, 1, none⟩) (Kd.R_far (p := ⟨gb180, 0, none⟩) (Kd.R_types HO_5.out BK180.out (by decide)) (fun _ hk => hk.2) (.string ((rd_T55 l1 x16_1).f0))) (fun _ hk => hk.2) (.int .i64 ((rd_T55 l1 x16_1).f1))) (fun _ h_ => h_.1))) hb); have n1_ := Aside0.mk (blk_below (g := gb180) (o := .cells #[.string ((rd_T55 l1 x16_1).f0), .int .i64 ((rd_T55 l1 x16_1).f1)] 55 (0, 0)) (by (with_reducible repeat (first | refine blk_drewN ?_ _ | refine blk_drew ?_ | refine blk_alloc ?_ _)); refine blk_put (cs := #[.string ((rd_T55 l1 x16_1).f0), .int .i64 0]) ?_ 1 _ rfl; (with_reducible repeat (first | refine blk_drewN ?_ _ | refine blk_drew ?_ | refine blk_alloc ?_ _)); refine blk_put (cs := #[.string (⟨#[]⟩ : ByteArray), .int .i64 0]) ?_ 0 _ rfl; (with_reducible repeat (first | refine blk_drewN ?_ _ | refine blk_drew ?_ | refine blk_alloc ?_ _)); exact BK180.out) hb); have n2_ := Aside0.mk (below_step (w := w) bW hb); clear HO_5; clear BK180; clear HB; have HO_5 := n0_; have BK180 := n1_; have HB := n2_; clear n0_ n1_ n2_; (try clear hb); (try clear hb2); (try clear hk); (try clear hi); have p183 : 0 ≤ (t181 : Int) := odt; have q183 : t181 < (l0.length : Int) := odt; obtain ⟨ad183, e183, hx183_0, hx183_1⟩ := at_T55 HR0.out t181 p183 q183; cases e183; replace hx183_0 := (HB.out.cell (World.block_lt_of_cell? w _ hx183_0)).trans hx183_0; replace hx183_1 := (HB.out.cell (World.block_lt_of_cell? w _ hx183_1)).trans hx183_1; replace p183 := eq_true p183; replace q183 := eq_true q183; obtain ⟨hcz19_0, hcz19_1⟩ := cz2 BK180; obtain ⟨hfz19_0, hfz19_1⟩ := fz2 BK180) | ((with_reducible refine gate_builtin (b := .append) (xs := #[.tmp 39, .tmp 45]) rfl ?_); at_builtin; refine Kd.R_append k62 (w0 := w) w.heap.size rfl (.tmp 39) (.tmp 45) 34 62 (.agg #[(.string ⟨#[]⟩), (.int .i64 0), (.bool false)]) 32 rfl Try.underlying34 info62 rfl (by decide) (by omega) u5 x5_1 (⟨(rd_T55 l1 x16_1).f0, (rd_T55 l1 x16_1).f1, false⟩ : S62) [.string ((rd_T55 l1 x16_1).f0), .int .i64 ((rd_T55 l1 x16_1).f1), .bool false] (fun _ => True) (fun _ => False) rfl rfl ?aP (fun _ hk => hk.elim) ?aF ?aO ?aB ?aS ?aL ?_; (case aP => exact k62_mkM _ _ _ (⟨(rd_T55 l1 x16_1).f0, (rd_T55 l1 x16_1).f1, false⟩ : S62)); (case aB => exact bW); (case aF => exact (fun _ _ => trivial)); (case aO => exact (pR HO_5)); (case aS => exact (below_size (w := w) bW)); (case aL => have := LMc15.out; omega); intro v185 w20 ho hb hg hat; rw [← Ny184.out] at ho; have n0_ := Aside0.mk (blk_grown (g := gb180) (o := .cells #[.string ((rd_T55 l1 x16_1).f0), .int .i64 ((rd_T55 l1 x16_1).f1)] 55 (0, 0)) (kB BK180) hg (Kd.R_ne HO_5.out BK180.out (by decide))); have n1_ := Aside0.mk (hb); have n2_ := Aside0.mk (ho); clear BK180; clear HB; clear HO_5; have BK180 := n0_; have HB := n1_; have HO186 := n2_; clear n0_ n1_ n2_; clear ho hb hg hat))
                      repeat (go_quiet (first | ((with_reducible refine gate_dst (N := 7) rfl ?_); refine bE (N := 7) (cs := #[.string (⟨#[]⟩ : ByteArray), .int .i64 0]) (t := 55) ?_; intro gb180 hg w16 hbox hb; have n0_ := Aside0.mk (Kd.R_below (pR HO_5) hb); have n1_ := Aside0.mk (below_step (w := w) bW hb); have n2_ := Aside0.mk (hbox); have n3_ := Aside0.mk (gS (w := w) hg); have n4_ := n3_; clear HO_5; clear HB; have HO_5 := n0_; have HB := n1_; have BK180 := n2_; have GW180 := n3_; have GE180 := n4_; clear n0_ n1_ n2_ n3_ n4_; clear hb hbox hg; obtain ⟨hcz17_0, hcz17_1⟩ := cz2 BK180; obtain ⟨hfz17_0, hfz17_1⟩ := fz2 BK180) | (go_at_call 57; (with_reducible refine (impl_find.calls _ _ l0 ((rd_T55 l1 x16_1).f0) t181 true _ ?side1 ?side2 A6.out).mono ?_); (case side1 => exact Kd.C_below HR0.out bW); (case side2 => exact HC0.out); rintro e w18 ⟨rfl, hb⟩; have n0_ := Aside0.mk (Kd.R_below (by (with_reducible repeat (first | apply Kd.R_alloc | apply Kd.R_drewN | apply Kd.R_drew)); exact (Kd.R_mono (Kd.R_far (p := ⟨gb180, 1, none⟩) (Kd.R_far (p := ⟨gb180, 0, none⟩) (Kd.R_types HO_5.out BK180.out (by decide)) (fun _ hk => hk.2) (.string ((rd_T55 l1 x16_1).f0))) (fun _ hk => hk.2) (.int .i64 ((rd_T55 l1 x16_1).f1))) (fun _ h_ => h_.1))) hb); have n1_ := Aside0.mk (blk_below (g := gb180) (o := .cells #[.string ((rd_T55 l1 x16_1).f0), .int .i64 ((rd_T55 l1 x16_1).f1)] 55 (0, 0)) (by (with_reducible repeat (first | refine blk_drewN ?_ _ | refine blk_drew ?_ | refine blk_alloc ?_ _)); refine blk_put (cs := #[.string ((rd_T55 l1 x16_1).f0), .int .i64 0]) ?_ 1 _ rfl; (with_reducible repeat (first | refine blk_drewN ?_ _ | refine blk_drew ?_ | refine blk_alloc ?_ _)); refine blk_put (cs := #[.string (⟨#[]⟩ : ByteArray), .int .i64 0]) ?_ 0 _ rfl; (with_reducible repeat (first | refine blk_drewN ?_ _ | refine blk_drew ?_ | refine blk_alloc ?_ _)); exact BK180.out) hb); have n2_ := Aside0.mk (below_step (w := w) bW hb); clear HO_5; clear BK180; clear HB; have HO_5 := n0_; have BK180 := n1_; have HB := n2_; clear n0_ n1_ n2_; (try clear hb); (try clear hb2); (try clear hk); (try clear hi); have p183 : 0 ≤ (t181 : Int) := odt; have q183 : t181 < (l0.length : Int) := odt; obtain ⟨ad183, e183, hx183_0, hx183_1⟩ := at_T55 HR0.out t181 p183 q183; cases e183; replace hx183_0 := (HB.out.cell (World.block_lt_of_cell? w _ hx183_0)).trans hx183_0; replace hx183_1 := (HB.out.cell (World.block_lt_of_cell? w _ hx183_1)).trans hx183_1; replace p183 := eq_true p183; replace q183 := eq_true q183; obtain ⟨hcz19_0, hcz19_1⟩ := cz2 BK180; obtain ⟨hfz19_0, hfz19_1⟩ := fz2 BK180) | ((with_reducible refine gate_builtin (b := .append) (xs := #[.tmp 39, .tmp 45]) rfl ?_); at_builtin; refine Kd.R_append k62 (w0 := w) w.heap.size rfl (.tmp 39) (.tmp 45) 34 62 (.agg #[(.string ⟨#[]⟩), (.int .i64 0), (.bool false)]) 32 rfl Try.underlying34 info62 rfl (by decide) (by omega) u5 x5_1 (⟨(rd_T55 l1 x16_1).f0, (rd_T55 l1 x16_1).f1, false⟩ : S62) [.string ((rd_T55 l1 x16_1).f0), .int .i64 ((rd_T55 l1 x16_1).f1), .bool false] (fun _ => True) (fun _ => False) rfl rfl ?aP (fun _ hk => hk.elim) ?aF ?aO ?aB ?aS ?aL ?_; (case aP => exact k62_mkM _ _ _ (⟨(rd_T55 l1 x16_1).f0, (rd_T55 l1 x16_1).f1, false⟩ : S62)); (case aB => exact bW); (case aF => exact (fun _ _ => trivial)); (case aO => exact (pR HO_5)); (case aS => exact (below_size (w := w) bW)); (case aL => have := LMc15.out; omega); intro v185 w20 ho hb hg hat; rw [← Ny184.out] at ho; have n0_ := Aside0.mk (blk_grown (g := gb180) (o := .cells #[.string ((rd_T55 l1 x16_1).f0), .int .i64 ((rd_T55 l1 x16_1).f1)] 55 (0, 0)) (kB BK180) hg (Kd.R_ne HO_5.out BK180.out (by decide))); have n1_ := Aside0.mk (hb); have n2_ := Aside0.mk (ho); clear BK180; clear HB; clear HO_5; have BK180 := n0_; have HB := n1_; have HO186 := n2_; clear n0_ n1_ n2_; clear ho hb hg hat)); try go_wp2_with (first | ((with_reducible refine gate_dst (N := 7) rfl ?_); refine bE (N := 7) (cs := #[.string (⟨#[]⟩ : ByteArray), .int .i64 0]) (t := 55) ?_; intro gb180 hg w16 hbox hb; have n0_ := Aside0.mk (Kd.R_below (pR HO_5) hb); have n1_ := Aside0.mk (below_step (w := w) bW hb); have n2_ := Aside0.mk (hbox); have n3_ := Aside0.mk (gS (w := w) hg); have n4_ := n3_; clear HO_5; clear HB; have HO_5 := n0_; have HB := n1_; have BK180 := n2_; have GW180 := n3_; have GE180 := n4_; clear n0_ n1_ n2_ n3_ n4_; clear hb hbox hg; obtain ⟨hcz17_0, hcz17_1⟩ := cz2 BK180; obtain ⟨hfz17_0, hfz17_1⟩ := fz2 BK180) | (go_at_call 57; (with_reducible refine (impl_find.calls _ _ l0 ((rd_T55 l1 x16_1).f0) t181 true _ ?side1 ?side2 A6.out).mono ?_); (case side1 => exact Kd.C_below HR0.out bW); (case side2 => exact HC0.out); rintro e w18 ⟨rfl, hb⟩; have n0_ := Aside0.mk (Kd.R_below (by (with_reducible repeat (first | apply Kd.R_alloc | apply Kd.R_drewN | apply Kd.R_drew)); exact (Kd.R_mono (Kd.R_far (p := ⟨gb180, 1, none⟩) (Kd.R_far (p := ⟨gb180, 0, none⟩) (Kd.R_types HO_5.out BK180.out (by decide)) (fun _ hk => hk.2) (.string ((rd_T55 l1 x16_1).f0))) (fun _ hk => hk.2) (.int .i64 ((rd_T55 l1 x16_1).f1))) (fun _ h_ => h_.1))) hb); have n1_ := Aside0.mk (blk_below (g := gb180) (o := .cells #[.string ((rd_T55 l1 x16_1).f0), .int .i64 ((rd_T55 l1 x16_1).f1)] 55 (0, 0)) (by (with_reducible repeat (first | refine blk_drewN ?_ _ | refine blk_drew ?_ | refine blk_alloc ?_ _)); refine blk_put (cs := #[.string ((rd_T55 l1 x16_1).f0), .int .i64 0]) ?_ 1 _ rfl; (with_reducible repeat (first | refine blk_drewN ?_ _ | refine blk_drew ?_ | refine blk_alloc ?_ _)); refine blk_put (cs := #[.string (⟨#[]⟩ : ByteArray), .int .i64 0]) ?_ 0 _ rfl; (with_reducible repeat (first | refine blk_drewN ?_ _ | refine blk_drew ?_ | refine blk_alloc ?_ _)); exact BK180.out) hb); have n2_ := Aside0.mk (below_step (w := w) bW hb); clear HO_5; clear BK180; clear HB; have HO_5 := n0_; have BK180 := n1_; have HB := n2_; clear n0_ n1_ n2_; (try clear hb); (try clear hb2); (try clear hk); (try clear hi); have p183 : 0 ≤ (t181 : Int) := odt; have q183 : t181 < (l0.length : Int) := odt; obtain ⟨ad183, e183, hx183_0, hx183_1⟩ := at_T55 HR0.out t181 p183 q183; cases e183; replace hx183_0 := (HB.out.cell (World.block_lt_of_cell? w _ hx183_0)).trans hx183_0; replace hx183_1 := (HB.out.cell (World.block_lt_of_cell? w _ hx183_1)).trans hx183_1; replace p183 := eq_true p183; replace q183 := eq_true q183; obtain ⟨hcz19_0, hcz19_1⟩ := cz2 BK180; obtain ⟨hfz19_0, hfz19_1⟩ := fz2 BK180) | ((with_reducible refine gate_builtin (b := .append) (xs := #[.tmp 39, .tmp 45]) rfl ?_); at_builtin; refine Kd.R_append k62 (w0 := w) w.heap.size rfl (.tmp 39) (.tmp 45) 34 62 (.agg #[(.string ⟨#[]⟩), (.int .i64 0), (.bool false)]) 32 rfl Try.underlying34 info62 rfl (by decide) (by omega) u5 x5_1 (⟨(rd_T55 l1 x16_1).f0, (rd_T55 l1 x16_1).f1, false⟩ : S62) [.string ((rd_T55 l1 x16_1).f0), .int .i64 ((rd_T55 l1 x16_1).f1), .bool false] (fun _ => True) (fun _ => False) rfl rfl ?aP (fun _ hk => hk.elim) ?aF ?aO ?aB ?aS ?aL ?_; (case aP => exact k62_mkM _ _ _ (⟨(rd_T55 l1 x16_1).f0, (rd_T55 l1 x16_1).f1, false⟩ : S62)); (case aB => exact bW); (case aF => exact (fun _ _ => trivial)); (case aO => exact (pR HO_5)); (case aS => exact (below_size (w := w) bW)); (case aL => have := LMc15.out; omega); intro v185 w20 ho hb hg hat; rw [← Ny184.out] at ho; have n0_ := Aside0.mk (blk_grown (g := gb180) (o := .cells #[.string ((rd_T55 l1 x16_1).f0), .int .i64 ((rd_T55 l1 x16_1).f1)] 55 (0, 0)) (kB BK180) hg (Kd.R_ne HO_5.out BK180.out (by decide))); have n1_ := Aside0.mk (hb); have n2_ := Aside0.mk (ho); clear BK180; clear HB; clear HO_5; have BK180 := n0_; have HB := n1_; have HO186 := n2_; clear n0_ n1_ n2_; clear ho hb hg hat)))
                      go_roundg k1
                      case measure => have := HK1.out; omega
                      case rel => exact ⟨(y184), (wrap64 (x16_1 + 1)), vE, H', ⟨by have := HK1.out; omega⟩, ⟨by (with_reducible repeat (first | apply Kd.R_alloc | apply Kd.R_drewN | apply Kd.R_drew)); exact HO186.out⟩, ⟨bW⟩⟩
                    · rw [if_neg c15] at H
                      exact absurd H (by simp)
                · rw [if_neg c9] at H
                  exact absurd H (by simp)
              · rw [if_neg c8] at H
                exact absurd H (by simp)
            · replace c7 := Bool.eq_false_iff.mpr c7
              subst c7
              have H1 : (if x5_1.length < 4398046511104 then (impl_diff.l0 k1 l0 l1 (x5_1 ++ [(⟨(rd_T55 l1 x16_1).f0, (rd_T55 l1 x16_1).f1, false⟩ : S62)]) l1 (l1.length : Int) (wrap64 (x16_1 + 1))) else (none)) = some r := by rw [if_neg (show ¬ (false = true) by decide)] at H; exact H
              clear H
              have H := H1
              clear H1
              by_cases c21 : x5_1.length < 4398046511104
              · rw [if_pos c21] at H
                have LMc21 := Aside0.mk c21
                clear c21
                obtain ⟨y187, hy187⟩ : ∃ y_ : List (S62), y_ = (x5_1 ++ [(⟨(rd_T55 l1 x16_1).f0, (rd_T55 l1 x16_1).f1, false⟩ : S62)]) := ⟨_, rfl⟩
                replace H : (impl_diff.l0 k1 l0 l1 y187 l1 (l1.length : Int) (wrap64 (x16_1 + 1))) = some r := by first | (rw [hy187]; with_reducible exact H) | (have H2_ := (Option.bind_some _ _).symm.trans H; rw [hy187]; with_reducible exact H2_) | (have H2_ := (Option.bind_some _ _).symm.trans H; with_reducible exact H2_) | with_reducible exact H | (rw [hy187]; exact H) | exact H
                have Ny187 := Aside0.mk hy187
                clear hy187
                have H' := Aside0.mk H
                clear H
                have p179 : 0 ≤ (x16_1 : Int) := odt
                have q179 : x16_1 < (l1.length : Int) := odt
                obtain ⟨ad179, e179, hx179_0, hx179_1⟩ := at_T55 HR1.out x16_1 p179 q179
                cases e179
                replace hx179_0 := (HB.out.cell (World.block_lt_of_cell? w _ hx179_0)).trans hx179_0
                replace hx179_1 := (HB.out.cell (World.block_lt_of_cell? w _ hx179_1)).trans hx179_1
                replace p179 := eq_true p179
                replace q179 := eq_true q179
                go_wp2_with (first | ((with_reducible refine gate_dst (N := 7) rfl ?_); refine bE (N := 7) (cs := #[.string (⟨#[]⟩ : ByteArray), .int .i64 0]) (t := 55) ?_; intro gb180 hg w22 hbox hb; have n0_ := Aside0.mk (Kd.R_below (pR HO_5) hb); have n1_ := Aside0.mk (below_step (w := w) bW hb); have n2_ := Aside0.mk (hbox); have n3_ := Aside0.mk (gS (w := w) hg); have n4_ := n3_; clear HO_5; clear HB; have HO_5 := n0_; have HB := n1_; have BK180 := n2_; have GW180 := n3_; have GE180 := n4_; clear n0_ n1_ n2_ n3_ n4_; clear hb hbox hg; obtain ⟨hcz23_0, hcz23_1⟩ := cz2 BK180; obtain ⟨hfz23_0, hfz23_1⟩ := fz2 BK180) | (go_at_call 57; (with_reducible refine (impl_find.calls _ _ l0 ((rd_T55 l1 x16_1).f0) t181 false _ ?side1 ?side2 A6.out).mono ?_); (case side1 => exact Kd.C_below HR0.out bW); (case side2 => exact HC0.out); rintro e w24 ⟨rfl, hb⟩; have n0_ := Aside0.mk (Kd.R_below (by (with_reducible repeat (first | apply Kd.R_alloc | apply Kd.R_drewN | apply Kd.R_drew)); exact (Kd.R_mono (Kd.R_far (p := ⟨gb180, 1, none⟩) (Kd.R_far (p := ⟨gb180, 0, none⟩) (Kd.R_types HO_5.out BK180.out (by decide)) (fun _ hk => hk.2) (.string ((rd_T55 l1 x16_1).f0))) (fun _ hk => hk.2) (.int .i64 ((rd_T55 l1 x16_1).f1))) (fun _ h_ => h_.1))) hb); have n1_ := Aside0.mk (blk_below (g := gb180) (o := .cells #[.string ((rd_T55 l1 x16_1).f0), .int .i64 ((rd_T55 l1 x16_1).f1)] 55 (0, 0)) (by (with_reducible repeat (first | refine blk_drewN ?_ _ | refine blk_drew ?_ | refine blk_alloc ?_ _)); refine blk_put (cs := #[.string ((rd_T55 l1 x16_1).f0), .int .i64 0]) ?_ 1 _ rfl; (with_reducible repeat (first | refine blk_drewN ?_ _ | refine blk_drew ?_ | refine blk_alloc ?_ _)); refine blk_put (cs := #[.string (⟨#[]⟩ : ByteArray), .int .i64 0]) ?_ 0 _ rfl; (with_reducible repeat (first | refine blk_drewN ?_ _ | refine blk_drew ?_ | refine blk_alloc ?_ _)); exact BK180.out) hb); have n2_ := Aside0.mk (below_step (w := w) bW hb); clear HO_5; clear BK180; clear HB; have HO_5 := n0_; have BK180 := n1_; have HB := n2_; clear n0_ n1_ n2_; (try clear hb); (try clear hb2); (try clear hk); (try clear hi); obtain ⟨hcz25_0, hcz25_1⟩ := cz2 BK180; obtain ⟨hfz25_0, hfz25_1⟩ := fz2 BK180) | ((with_reducible refine gate_builtin (b := .append) (xs := #[.tmp 39, .tmp 45]) rfl ?_); at_builtin; refine Kd.R_append k62 (w0 := w) w.heap.size rfl (.tmp 39) (.tmp 45) 34 62 (.agg #[(.string ⟨#[]⟩), (.int .i64 0), (.bool false)]) 32 rfl Try.underlying34 info62 rfl (by decide) (by omega) u5 x5_1 (⟨(rd_T55 l1 x16_1).f0, (rd_T55 l1 x16_1).f1, false⟩ : S62) [.string ((rd_T55 l1 x16_1).f0), .int .i64 ((rd_T55 l1 x16_1).f1), .bool false] (fun _ => True) (fun _ => False) rfl rfl ?aP (fun _ hk => hk.elim) ?aF ?aO ?aB ?aS ?aL ?_; (case aP => exact k62_mkM _ _ _ (⟨(rd_T55 l1 x16_1).f0, (rd_T55 l1 x16_1).f1, false⟩ : S62)); (case aB => exact bW); (case aF => exact (fun _ _ => trivial)); (case aO => exact (pR HO_5)); (case aS => exact (below_size (w := w) bW)); (case aL => have := LMc21.out; omega); intro v188 w26 ho hb hg hat; rw [← Ny187.out] at ho; have n0_ := Aside0.mk (blk_grown (g := gb180) (o := .cells #[.string ((rd_T55 l1 x16_1).f0), .int .i64 ((rd_T55 l1 x16_1).f1)] 55 (0, 0)) (kB BK180) hg (Kd.R_ne HO_5.out BK180.out (by decide))); have n1_ := Aside0.mk (hb); have n2_ := Aside0.mk (ho); clear BK180; clear HB; clear HO_5; have BK180 := n0_; have HB := n1_; have HO189 := n2_; clear n0_ n1_ n2_; clear ho hb hg hat))
                repeat (go_quiet (first | ((with_reducible refine gate_dst (N := 7) rfl ?_); refine bE (N := 7) (cs := #[.string (⟨#[]⟩ : ByteArray), .int .i64 0]) (t := 55) ?_; intro gb180 hg w22 hbox hb; have n0_ := Aside0.mk (Kd.R_below (pR HO_5) hb); have n1_ := Aside0.mk (below_step (w := w) bW hb); have n2_ := Aside0.mk (hbox); have n3_ := Aside0.mk (gS (w := w) hg); have n4_ := n3_; clear HO_5; clear HB; have HO_5 := n0_; have HB := n1_; have BK180 := n2_; have GW180 := n3_; have GE180 := n4_; clear n0_ n1_ n2_ n3_ n4_; clear hb hbox hg; obtain ⟨hcz23_0, hcz23_1⟩ := cz2 BK180; obtain ⟨hfz23_0, hfz23_1⟩ := fz2 BK180) | (go_at_call 57; (with_reducible refine (impl_find.calls _ _ l0 ((rd_T55 l1 x16_1).f0) t181 false _ ?side1 ?side2 A6.out).mono ?_); (case side1 => exact Kd.C_below HR0.out bW); (case side2 => exact HC0.out); rintro e w24 ⟨rfl, hb⟩; have n0_ := Aside0.mk (Kd.R_below (by (with_reducible repeat (first | apply Kd.R_alloc | apply Kd.R_drewN | apply Kd.R_drew)); exact (Kd.R_mono (Kd.R_far (p := ⟨gb180, 1, none⟩) (Kd.R_far (p := ⟨gb180, 0, none⟩) (Kd.R_types HO_5.out BK180.out (by decide)) (fun _ hk => hk.2) (.string ((rd_T55 l1 x16_1).f0))) (fun _ hk => hk.2) (.int .i64 ((rd_T55 l1 x16_1).f1))) (fun _ h_ => h_.1))) hb); have n1_ := Aside0.mk (blk_below (g := gb180) (o := .cells #[.string ((rd_T55 l1 x16_1).f0), .int .i64 ((rd_T55 l1 x16_1).f1)] 55 (0, 0)) (by (with_reducible repeat (first | refine blk_drewN ?_ _ | refine blk_drew ?_ | refine blk_alloc ?_ _)); refine blk_put (cs := #[.string ((rd_T55 l1 x16_1).f0), .int .i64 0]) ?_ 1 _ rfl; (with_reducible repeat (first | refine blk_drewN ?_ _ | refine blk_drew ?_ | refine blk_alloc ?_ _)); refine blk_put (cs := #[.string (⟨#[]⟩ : ByteArray), .int .i64 0]) ?_ 0 _ rfl; (with_reducible repeat (first | refine blk_drewN ?_ _ | refine blk_drew ?_ | refine blk_alloc ?_ _)); exact BK180.out) hb); have n2_ := Aside0.mk (below_step (w := w) bW hb); clear HO_5; clear BK180; clear HB; have HO_5 := n0_; have BK180 := n1_; have HB := n2_; clear n0_ n1_ n2_; (try clear hb); (try clear hb2); (try clear hk); (try clear hi); obtain ⟨hcz25_0, hcz25_1⟩ := cz2 BK180; obtain ⟨hfz25_0, hfz25_1⟩ := fz2 BK180) | ((with_reducible refine gate_builtin (b := .append) (xs := #[.tmp 39, .tmp 45]) rfl ?_); at_builtin; refine Kd.R_append k62 (w0 := w) w.heap.size rfl (.tmp 39) (.tmp 45) 34 62 (.agg #[(.string ⟨#[]⟩), (.int .i64 0), (.bool false)]) 32 rfl Try.underlying34 info62 rfl (by decide) (by omega) u5 x5_1 (⟨(rd_T55 l1 x16_1).f0, (rd_T55 l1 x16_1).f1, false⟩ : S62) [.string ((rd_T55 l1 x16_1).f0), .int .i64 ((rd_T55 l1 x16_1).f1), .bool false] (fun _ => True) (fun _ => False) rfl rfl ?aP (fun _ hk => hk.elim) ?aF ?aO ?aB ?aS ?aL ?_; (case aP => exact k62_mkM _ _ _ (⟨(rd_T55 l1 x16_1).f0, (rd_T55 l1 x16_1).f1, false⟩ : S62)); (case aB => exact bW); (case aF => exact (fun _ _ => trivial)); (case aO => exact (pR HO_5)); (case aS => exact (below_size (w := w) bW)); (case aL => have := LMc21.out; omega); intro v188 w26 ho hb hg hat; rw [← Ny187.out] at ho; have n0_ := Aside0.mk (blk_grown (g := gb180) (o := .cells #[.string ((rd_T55 l1 x16_1).f0), .int .i64 ((rd_T55 l1 x16_1).f1)] 55 (0, 0)) (kB BK180) hg (Kd.R_ne HO_5.out BK180.out (by decide))); have n1_ := Aside0.mk (hb); have n2_ := Aside0.mk (ho); clear BK180; clear HB; clear HO_5; have BK180 := n0_; have HB := n1_; have HO189 := n2_; clear n0_ n1_ n2_; clear ho hb hg hat)); try go_wp2_with (first | ((with_reducible refine gate_dst (N := 7) rfl ?_); refine bE (N := 7) (cs := #[.string (⟨#[]⟩ : ByteArray), .int .i64 0]) (t := 55) ?_; intro gb180 hg w22 hbox hb; have n0_ := Aside0.mk (Kd.R_below (pR HO_5) hb); have n1_ := Aside0.mk (below_step (w := w) bW hb); have n2_ := Aside0.mk (hbox); have n3_ := Aside0.mk (gS (w := w) hg); have n4_ := n3_; clear HO_5; clear HB; have HO_5 := n0_; have HB := n1_; have BK180 := n2_; have GW180 := n3_; have GE180 := n4_; clear n0_ n1_ n2_ n3_ n4_; clear hb hbox hg; obtain ⟨hcz23_0, hcz23_1⟩ := cz2 BK180; obtain ⟨hfz23_0, hfz23_1⟩ := fz2 BK180) | (go_at_call 57; (with_reducible refine (impl_find.calls _ _ l0 ((rd_T55 l1 x16_1).f0) t181 false _ ?side1 ?side2 A6.out).mono ?_); (case side1 => exact Kd.C_below HR0.out bW); (case side2 => exact HC0.out); rintro e w24 ⟨rfl, hb⟩; have n0_ := Aside0.mk (Kd.R_below (by (with_reducible repeat (first | apply Kd.R_alloc | apply Kd.R_drewN | apply Kd.R_drew)); exact (Kd.R_mono (Kd.R_far (p := ⟨gb180, 1, none⟩) (Kd.R_far (p := ⟨gb180, 0, none⟩) (Kd.R_types HO_5.out BK180.out (by decide)) (fun _ hk => hk.2) (.string ((rd_T55 l1 x16_1).f0))) (fun _ hk => hk.2) (.int .i64 ((rd_T55 l1 x16_1).f1))) (fun _ h_ => h_.1))) hb); have n1_ := Aside0.mk (blk_below (g := gb180) (o := .cells #[.string ((rd_T55 l1 x16_1).f0), .int .i64 ((rd_T55 l1 x16_1).f1)] 55 (0, 0)) (by (with_reducible repeat (first | refine blk_drewN ?_ _ | refine blk_drew ?_ | refine blk_alloc ?_ _)); refine blk_put (cs := #[.string ((rd_T55 l1 x16_1).f0), .int .i64 0]) ?_ 1 _ rfl; (with_reducible repeat (first | refine blk_drewN ?_ _ | refine blk_drew ?_ | refine blk_alloc ?_ _)); refine blk_put (cs := #[.string (⟨#[]⟩ : ByteArray), .int .i64 0]) ?_ 0 _ rfl; (with_reducible repeat (first | refine blk_drewN ?_ _ | refine blk_drew ?_ | refine blk_alloc ?_ _)); exact BK180.out) hb); have n2_ := Aside0.mk (below_step (w := w) bW hb); clear HO_5; clear BK180; clear HB; have HO_5 := n0_; have BK180 := n1_; have HB := n2_; clear n0_ n1_ n2_; (try clear hb); (try clear hb2); (try clear hk); (try clear hi); obtain ⟨hcz25_0, hcz25_1⟩ := cz2 BK180; obtain ⟨hfz25_0, hfz25_1⟩ := fz2 BK180) | ((with_reducible refine gate_builtin (b := .append) (xs := #[.tmp 39, .tmp 45]) rfl ?_); at_builtin; refine Kd.R_append k62 (w0 := w) w.heap.size rfl (.tmp 39) (.tmp 45) 34 62 (.agg #[(.string ⟨#[]⟩), (.int .i64 0), (.bool false)]) 32 rfl Try.underlying34 info62 rfl (by decide) (by omega) u5 x5_1 (⟨(rd_T55 l1 x16_1).f0, (rd_T55 l1 x16_1).f1, false⟩ : S62) [.string ((rd_T55 l1 x16_1).f0), .int .i64 ((rd_T55 l1 x16_1).f1), .bool false] (fun _ => True) (fun _ => False) rfl rfl ?aP (fun _ hk => hk.elim) ?aF ?aO ?aB ?aS ?aL ?_; (case aP => exact k62_mkM _ _ _ (⟨(rd_T55 l1 x16_1).f0, (rd_T55 l1 x16_1).f1, false⟩ : S62)); (case aB => exact bW); (case aF => exact (fun _ _ => trivial)); (case aO => exact (pR HO_5)); (case aS => exact (below_size (w := w) bW)); (case aL => have := LMc21.out; omega); intro v188 w26 ho hb hg hat; rw [← Ny187.out] at ho; have n0_ := Aside0.mk (blk_grown (g := gb180) (o := .cells #[.string ((rd_T55 l1 x16_1).f0), .int .i64 ((rd_T55 l1 x16_1).f1)] 55 (0, 0)) (kB BK180) hg (Kd.R_ne HO_5.out BK180.out (by decide))); have n1_ := Aside0.mk (hb); have n2_ := Aside0.mk (ho); clear BK180; clear HB; clear HO_5; have BK180 := n0_; have HB := n1_; have HO189 := n2_; clear n0_ n1_ n2_; clear ho hb hg hat)))
                go_roundg k1
                case measure => have := HK1.out; omega
                case rel => exact ⟨(y187), (wrap64 (x16_1 + 1)), vE, H', ⟨by have := HK1.out; omega⟩, ⟨by (with_reducible repeat (first | apply Kd.R_alloc | apply Kd.R_drewN | apply Kd.R_drew)); exact HO189.out⟩, ⟨bW⟩⟩
              · rw [if_neg c21] at H
                exact absurd H (by simp)
          · rw [if_neg c5] at H
            exact absurd H (by simp)
        · rw [if_neg c4] at H
          exact absurd H (by simp)
      · rw [if_neg c3] at H
        have c3b0 : decide (x16_1 < (l1.length : Int)) = false := decide_eq_false c3
        clear c3
        have H' := Aside0.mk H
        clear H
        go_wp2
        repeat (go_quiet (fail); try go_wp2)
        go_loopg [5, 50] k1 (fun kq v5 v50 w' => ∃ (x5_2 : List (S62)) (x50_2 : Int), v50 = .int .i64 x50_2 ∧ Aside0 (impl_diff.l1 kq l1 x5_2 l0 (l0.length : Int) x50_2 = some r) ∧ Aside0 (kq ≤ k1) ∧ Aside0 (Kd.R k62 62 w' w.heap.size (fun _ => True) v5 x5_2) ∧ Aside0 (Below w.heap.size w w'))
        case atStart => exact ⟨(x5_1), (0), vE, H', ⟨Nat.le_refl _⟩, ⟨by (with_reducible repeat (first | apply Kd.R_alloc | apply Kd.R_drewN | apply Kd.R_drew)); exact HO_5.out⟩, ⟨bW⟩⟩
        case round =>
          clear H'
          try clear c1
          try clear p1
          try clear q1
          try clear hx1
          try clear c2
          try clear p2
          try clear c3
          try clear c3b0
          try clear c4
          try clear c4b0
          try clear c5
          try clear c5b0
          try clear p6
          try clear c7
          try clear c8
          try clear c8b0
          try clear c9
          try clear c9b0
          try clear c10
          try clear c10b0
          try clear c10b1
          try clear c15
          try clear p17
          try clear q17
          try clear hx17
          try clear p18
          try clear q18
          try clear hx18
          try clear c21
          try clear hcz12_0
          try clear hcz12_1
          try clear hcz14_0
          try clear hcz14_1
          try clear hcz17_0
          try clear hcz17_1
          try clear hcz19_0
          try clear hcz19_1
          try clear hcz23_0
          try clear hcz23_1
          try clear hcz25_0
          try clear hcz25_1
          try clear hfz12_0
          try clear hfz12_1
          try clear hfz14_0
          try clear hfz14_1
          try clear hfz17_0
          try clear hfz17_1
          try clear hfz19_0
          try clear hfz19_1
          try clear hfz23_0
          try clear hfz23_1
          try clear hfz25_0
          try clear hfz25_1
          try clear hx179_0
          try clear hx179_1
          try clear hx183_0
          try clear hx183_1
          try clear p179
          try clear p183
          try clear p2
          try clear q179
          try clear q183
          obtain ⟨x5_2, x50_2, rfl, HA, HK2, HO_5, HB⟩ := hrel
          cases gk with
          | zero => exact absurd HA.out (by simp [impl_diff.l1])
          | succ k2 =>
            have H := HA.out
            clear HA
            simp only [impl_diff.l1] at H
            by_cases c27 : x50_2 < (l0.length : Int)
            · rw [if_pos c27] at H
              have c27b0 : decide (x50_2 < (l0.length : Int)) = true := decide_eq_true c27
              clear c27
              by_cases c28 : 0 ≤ x50_2
              · rw [if_pos c28] at H
                have c28b0 : decide (0 ≤ x50_2) = true := decide_eq_true c28
                clear c28
                by_cases c29 : x50_2 < (l0.length : Int)
                · rw [if_pos c29] at H
                  have c29b0 : decide (x50_2 < (l0.length : Int)) = true := decide_eq_true c29
                  clear c29
                  replace H := Option.bind_eq_some_iff.mp H
                  obtain ⟨⟨t192, t193⟩, A300, H⟩ := H
                  replace H : (if t193 = true then (impl_diff.l1 k2 l1 x5_2 l0 (l0.length : Int) (wrap64 (x50_2 + 1))) else (if x5_2.length < 4398046511104 then (impl_diff.l1 k2 l1 (x5_2 ++ [(⟨(rd_T55 l0 x50_2).f0, 0, true⟩ : S62)]) l0 (l0.length : Int) (wrap64 (x50_2 + 1))) else (none))) = some r := H
                  have A30 := Aside0.mk A300
                  clear A300
                  by_cases c31 : t193 = true
                  · subst c31
                    have H1 : (impl_diff.l1 k2 l1 x5_2 l0 (l0.length : Int) (wrap64 (x50_2 + 1))) = some r := by rw [if_pos rfl] at H; exact H
                    clear H
                    have H := H1
                    clear H1
                    have H' := Aside0.mk H
                    clear H
                    have p190 : 0 ≤ (x50_2 : Int) := odt
                    have q190 : x50_2 < (l0.length : Int) := odt
                    obtain ⟨ad190, e190, hx190_0, hx190_1⟩ := at_T55 HR0.out x50_2 p190 q190
                    cases e190
                    replace hx190_0 := (HB.out.cell (World.block_lt_of_cell? w _ hx190_0)).trans hx190_0
                    replace hx190_1 := (HB.out.cell (World.block_lt_of_cell? w _ hx190_1)).trans hx190_1
                    replace p190 := eq_true p190
                    replace q190 := eq_true q190
                    go_wp2_with (first | ((with_reducible refine gate_dst (N := 11) rfl ?_); refine bE (N := 11) (cs := #[.string (⟨#[]⟩ : ByteArray), .int .i64 0]) (t := 55) ?_; intro gb191 hg w32 hbox hb; have n0_ := Aside0.mk (Kd.R_below (pR HO_5) hb); have n1_ := Aside0.mk (below_step (w := w) bW hb); have n2_ := Aside0.mk (hbox); have n3_ := Aside0.mk (gS (w := w) hg); have n4_ := n3_; clear HO_5; clear HB; have HO_5 := n0_; have HB := n1_; have BK191 := n2_; have GW191 := n3_; have GE191 := n4_; clear n0_ n1_ n2_ n3_ n4_; clear hb hbox hg; obtain ⟨hcz33_0, hcz33_1⟩ := cz2 BK191; obtain ⟨hfz33_0, hfz33_1⟩ := fz2 BK191) | (go_at_call 57; (with_reducible refine (impl_find.calls _ _ l1 ((rd_T55 l0 x50_2).f0) t192 true _ ?side1 ?side2 A30.out).mono ?_); (case side1 => exact Kd.C_below HR1.out bW); (case side2 => exact HC1.out); rintro e w34 ⟨rfl, hb⟩; have n0_ := Aside0.mk (Kd.R_below (by (with_reducible repeat (first | apply Kd.R_alloc | apply Kd.R_drewN | apply Kd.R_drew)); exact (Kd.R_mono (Kd.R_far (p := ⟨gb191, 1, none⟩) (Kd.R_far (p := ⟨gb191, 0, none⟩) (Kd.R_types HO_5.out BK191.out (by decide)) (fun _ hk => hk.2) (.string ((rd_T55 l0 x50_2).f0))) (fun _ hk => hk.2) (.int .i64 ((rd_T55 l0 x50_2).f1))) (fun _ h_ => h_.1))) hb); have n1_ := Aside0.mk (blk_below (g := gb191) (o := .cells #[.string ((rd_T55 l0 x50_2).f0), .int .i64 ((rd_T55 l0 x50_2).f1)] 55 (0, 0)) (by (with_reducible repeat (first | refine blk_drewN ?_ _ | refine blk_drew ?_ | refine blk_alloc ?_ _)); refine blk_put (cs := #[.string ((rd_T55 l0 x50_2).f0), .int .i64 0]) ?_ 1 _ rfl; (with_reducible repeat (first | refine blk_drewN ?_ _ | refine blk_drew ?_ | refine blk_alloc ?_ _)); refine blk_put (cs := #[.string (⟨#[]⟩ : ByteArray), .int .i64 0]) ?_ 0 _ rfl; (with_reducible repeat (first | refine blk_drewN ?_ _ | refine blk_drew ?_ | refine blk_alloc ?_ _)); exact BK191.out) hb); have n2_ := Aside0.mk (below_step (w := w) bW hb); clear HO_5; clear BK191; clear HB; have HO_5 := n0_; have BK191 := n1_; have HB := n2_; clear n0_ n1_ n2_; (try clear hb); (try clear hb2); (try clear hk); (try clear hi)))
                    repeat (go_quiet (first | ((with_reducible refine gate_dst (N := 11) rfl ?_); refine bE (N := 11) (cs := #[.string (⟨#[]⟩ : ByteArray), .int .i64 0]) (t := 55) ?_; intro gb191 hg w32 hbox hb; have n0_ := Aside0.mk (Kd.R_below (pR HO_5) hb); have n1_ := Aside0.mk (below_step (w := w) bW hb); have n2_ := Aside0.mk (hbox); have n3_ := Aside0.mk (gS (w := w) hg); have n4_ := n3_; clear HO_5; clear HB; have HO_5 := n0_; have HB := n1_; have BK191 := n2_; have GW191 := n3_; have GE191 := n4_; clear n0_ n1_ n2_ n3_ n4_; clear hb hbox hg; obtain ⟨hcz33_0, hcz33_1⟩ := cz2 BK191; obtain ⟨hfz33_0, hfz33_1⟩ := fz2 BK191) | (go_at_call 57; (with_reducible refine (impl_find.calls _ _ l1 ((rd_T55 l0 x50_2).f0) t192 true _ ?side1 ?side2 A30.out).mono ?_); (case side1 => exact Kd.C_below HR1.out bW); (case side2 => exact HC1.out); rintro e w34 ⟨rfl, hb⟩; have n0_ := Aside0.mk (Kd.R_below (by (with_reducible repeat (first | apply Kd.R_alloc | apply Kd.R_drewN | apply Kd.R_drew)); exact (Kd.R_mono (Kd.R_far (p := ⟨gb191, 1, none⟩) (Kd.R_far (p := ⟨gb191, 0, none⟩) (Kd.R_types HO_5.out BK191.out (by decide)) (fun _ hk => hk.2) (.string ((rd_T55 l0 x50_2).f0))) (fun _ hk => hk.2) (.int .i64 ((rd_T55 l0 x50_2).f1))) (fun _ h_ => h_.1))) hb); have n1_ := Aside0.mk (blk_below (g := gb191) (o := .cells #[.string ((rd_T55 l0 x50_2).f0), .int .i64 ((rd_T55 l0 x50_2).f1)] 55 (0, 0)) (by (with_reducible repeat (first | refine blk_drewN ?_ _ | refine blk_drew ?_ | refine blk_alloc ?_ _)); refine blk_put (cs := #[.string ((rd_T55 l0 x50_2).f0), .int .i64 0]) ?_ 1 _ rfl; (with_reducible repeat (first | refine blk_drewN ?_ _ | refine blk_drew ?_ | refine blk_alloc ?_ _)); refine blk_put (cs := #[.string (⟨#[]⟩ : ByteArray), .int .i64 0]) ?_ 0 _ rfl; (with_reducible repeat (first | refine blk_drewN ?_ _ | refine blk_drew ?_ | refine blk_alloc ?_ _)); exact BK191.out) hb); have n2_ := Aside0.mk (below_step (w := w) bW hb); clear HO_5; clear BK191; clear HB; have HO_5 := n0_; have BK191 := n1_; have HB := n2_; clear n0_ n1_ n2_; (try clear hb); (try clear hb2); (try clear hk); (try clear hi))); try go_wp2_with (first | ((with_reducible refine gate_dst (N := 11) rfl ?_); refine bE (N := 11) (cs := #[.string (⟨#[]⟩ : ByteArray), .int .i64 0]) (t := 55) ?_; intro gb191 hg w32 hbox hb; have n0_ := Aside0.mk (Kd.R_below (pR HO_5) hb); have n1_ := Aside0.mk (below_step (w := w) bW hb); have n2_ := Aside0.mk (hbox); have n3_ := Aside0.mk (gS (w := w) hg); have n4_ := n3_; clear HO_5; clear HB; have HO_5 := n0_; have HB := n1_; have BK191 := n2_; have GW191 := n3_; have GE191 := n4_; clear n0_ n1_ n2_ n3_ n4_; clear hb hbox hg; obtain ⟨hcz33_0, hcz33_1⟩ := cz2 BK191; obtain ⟨hfz33_0, hfz33_1⟩ := fz2 BK191) | (go_at_call 57; (with_reducible refine (impl_find.calls _ _ l1 ((rd_T55 l0 x50_2).f0) t192 true _ ?side1 ?side2 A30.out).mono ?_); (case side1 => exact Kd.C_below HR1.out bW); (case side2 => exact HC1.out); rintro e w34 ⟨rfl, hb⟩; have n0_ := Aside0.mk (Kd.R_below (by (with_reducible repeat (first | apply Kd.R_alloc | apply Kd.R_drewN | apply Kd.R_drew)); exact (Kd.R_mono (Kd.R_far (p := ⟨gb191, 1, none⟩) (Kd.R_far (p := ⟨gb191, 0, none⟩) (Kd.R_types HO_5.out BK191.out (by decide)) (fun _ hk => hk.2) (.string ((rd_T55 l0 x50_2).f0))) (fun _ hk => hk.2) (.int .i64 ((rd_T55 l0 x50_2).f1))) (fun _ h_ => h_.1))) hb); have n1_ := Aside0.mk (blk_below (g := gb191) (o := .cells #[.string ((rd_T55 l0 x50_2).f0), .int .i64 ((rd_T55 l0 x50_2).f1)] 55 (0, 0)) (by (with_reducible repeat (first | refine blk_drewN ?_ _ | refine blk_drew ?_ | refine blk_alloc ?_ _)); refine blk_put (cs := #[.string ((rd_T55 l0 x50_2).f0), .int .i64 0]) ?_ 1 _ rfl; (with_reducible repeat (first | refine blk_drewN ?_ _ | refine blk_drew ?_ | refine blk_alloc ?_ _)); refine blk_put (cs := #[.string (⟨#[]⟩ : ByteArray), .int .i64 0]) ?_ 0 _ rfl; (with_reducible repeat (first | refine blk_drewN ?_ _ | refine blk_drew ?_ | refine blk_alloc ?_ _)); exact BK191.out) hb); have n2_ := Aside0.mk (below_step (w := w) bW hb); clear HO_5; clear BK191; clear HB; have HO_5 := n0_; have BK191 := n1_; have HB := n2_; clear n0_ n1_ n2_; (try clear hb); (try clear hb2); (try clear hk); (try clear hi))))
                    go_roundg k2
                    case measure => have := HK1.out; have := HK2.out; omega
                    case rel => exact ⟨(x5_2), (wrap64 (x50_2 + 1)), vE, H', ⟨by have := HK1.out; have := HK2.out; omega⟩, ⟨by (with_reducible repeat (first | apply Kd.R_alloc | apply Kd.R_drewN | apply Kd.R_drew)); exact HO_5.out⟩, ⟨bW⟩⟩
                  · replace c31 := Bool.eq_false_iff.mpr c31
                    subst c31
                    have H1 : (if x5_2.length < 4398046511104 then (impl_diff.l1 k2 l1 (x5_2 ++ [(⟨(rd_T55 l0 x50_2).f0, 0, true⟩ : S62)]) l0 (l0.length : Int) (wrap64 (x50_2 + 1))) else (none)) = some r := by rw [if_neg (show ¬ (false = true) by decide)] at H; exact H
                    clear H
                    have H := H1
                    clear H1
                    by_cases c35 : x5_2.length < 4398046511104
                    · rw [if_pos c35] at H
                      have LMc35 := Aside0.mk c35
                      clear c35
                      obtain ⟨y194, hy194⟩ : ∃ y_ : List (S62), y_ = (x5_2 ++ [(⟨(rd_T55 l0 x50_2).f0, 0, true⟩ : S62)]) := ⟨_, rfl⟩
                      replace H : (impl_diff.l1 k2 l1 y194 l0 (l0.length : Int) (wrap64 (x50_2 + 1))) = some r := by first | (rw [hy194]; with_reducible exact H) | (have H2_ := (Option.bind_some _ _).symm.trans H; rw [hy194]; with_reducible exact H2_) | (have H2_ := (Option.bind_some _ _).symm.trans H; with_reducible exact H2_) | with_reducible exact H | (rw [hy194]; exact H) | exact H
                      have Ny194 := Aside0.mk hy194
                      clear hy194
                      have H' := Aside0.mk H
                      clear H
                      have p190 : 0 ≤ (x50_2 : Int) := odt
                      have q190 : x50_2 < (l0.length : Int) := odt
                      obtain ⟨ad190, e190, hx190_0, hx190_1⟩ := at_T55 HR0.out x50_2 p190 q190
                      cases e190
                      replace hx190_0 := (HB.out.cell (World.block_lt_of_cell? w _ hx190_0)).trans hx190_0
                      replace hx190_1 := (HB.out.cell (World.block_lt_of_cell? w _ hx190_1)).trans hx190_1
                      replace p190 := eq_true p190
                      replace q190 := eq_true q190
                      go_wp2_with (first | ((with_reducible refine gate_dst (N := 11) rfl ?_); refine bE (N := 11) (cs := #[.string (⟨#[]⟩ : ByteArray), .int .i64 0]) (t := 55) ?_; intro gb191 hg w36 hbox hb; have n0_ := Aside0.mk (Kd.R_below (pR HO_5) hb); have n1_ := Aside0.mk (below_step (w := w) bW hb); have n2_ := Aside0.mk (hbox); have n3_ := Aside0.mk (gS (w := w) hg); have n4_ := n3_; clear HO_5; clear HB; have HO_5 := n0_; have HB := n1_; have BK191 := n2_; have GW191 := n3_; have GE191 := n4_; clear n0_ n1_ n2_ n3_ n4_; clear hb hbox hg; obtain ⟨hcz37_0, hcz37_1⟩ := cz2 BK191; obtain ⟨hfz37_0, hfz37_1⟩ := fz2 BK191) | (go_at_call 57; (with_reducible refine (impl_find.calls _ _ l1 ((rd_T55 l0 x50_2).f0) t192 false _ ?side1 ?side2 A30.out).mono ?_); (case side1 => exact Kd.C_below HR1.out bW); (case side2 => exact HC1.out); rintro e w38 ⟨rfl, hb⟩; have n0_ := Aside0.mk (Kd.R_below (by (with_reducible repeat (first | apply Kd.R_alloc | apply Kd.R_drewN | apply Kd.R_drew)); exact (Kd.R_mono (Kd.R_far (p := ⟨gb191, 1, none⟩) (Kd.R_far (p := ⟨gb191, 0, none⟩) (Kd.R_types HO_5.out BK191.out (by decide)) (fun _ hk => hk.2) (.string ((rd_T55 l0 x50_2).f0))) (fun _ hk => hk.2) (.int .i64 ((rd_T55 l0 x50_2).f1))) (fun _ h_ => h_.1))) hb); have n1_ := Aside0.mk (blk_below (g := gb191) (o := .cells #[.string ((rd_T55 l0 x50_2).f0), .int .i64 ((rd_T55 l0 x50_2).f1)] 55 (0, 0)) (by (with_reducible repeat (first | refine blk_drewN ?_ _ | refine blk_drew ?_ | refine blk_alloc ?_ _)); refine blk_put (cs := #[.string ((rd_T55 l0 x50_2).f0), .int .i64 0]) ?_ 1 _ rfl; (with_reducible repeat (first | refine blk_drewN ?_ _ | refine blk_drew ?_ | refine blk_alloc ?_ _)); refine blk_put (cs := #[.string (⟨#[]⟩ : ByteArray), .int .i64 0]) ?_ 0 _ rfl; (with_reducible repeat (first | refine blk_drewN ?_ _ | refine blk_drew ?_ | refine blk_alloc ?_ _)); exact BK191.out) hb); have n2_ := Aside0.mk (below_step (w := w) bW hb); clear HO_5; clear BK191; clear HB; have HO_5 := n0_; have BK191 := n1_; have HB := n2_; clear n0_ n1_ n2_; (try clear hb); (try clear hb2); (try clear hk); (try clear hi); obtain ⟨hcz39_0, hcz39_1⟩ := cz2 BK191; obtain ⟨hfz39_0, hfz39_1⟩ := fz2 BK191) | ((with_reducible refine gate_builtin (b := .append) (xs := #[.tmp 63, .tmp 67]) rfl ?_); at_builtin; refine Kd.R_append k62 (w0 := w) w.heap.size rfl (.tmp 63) (.tmp 67) 34 62 (.agg #[(.string ⟨#[]⟩), (.int .i64 0), (.bool false)]) 32 rfl Try.underlying34 info62 rfl (by decide) (by omega) u5 x5_2 (⟨(rd_T55 l0 x50_2).f0, 0, true⟩ : S62) [.string ((rd_T55 l0 x50_2).f0), .int .i64 0, .bool true] (fun _ => True) (fun _ => False) rfl rfl ?aP (fun _ hk => hk.elim) ?aF ?aO ?aB ?aS ?aL ?_; (case aP => exact k62_mkM _ _ _ (⟨(rd_T55 l0 x50_2).f0, 0, true⟩ : S62)); (case aB => exact bW); (case aF => exact (fun _ _ => trivial)); (case aO => exact (pR HO_5)); (case aS => exact (below_size (w := w) bW)); (case aL => have := LMc35.out; omega); intro v195 w40 ho hb hg hat; rw [← Ny194.out] at ho; have n0_ := Aside0.mk (blk_grown (g := gb191) (o := .cells #[.string ((rd_T55 l0 x50_2).f0), .int .i64 ((rd_T55 l0 x50_2).f1)] 55 (0, 0)) (kB BK191) hg (Kd.R_ne HO_5.out BK191.out (by decide))); have n1_ := Aside0.mk (hb); have n2_ := Aside0.mk (ho); clear BK191; clear HB; clear HO_5; have BK191 := n0_; have HB := n1_; have HO196 := n2_; clear n0_ n1_ n2_; clear ho hb hg hat))
                      repeat (go_quiet (first | ((with_reducible refine gate_dst (N := 11) rfl ?_); refine bE (N := 11) (cs := #[.string (⟨#[]⟩ : ByteArray), .int .i64 0]) (t := 55) ?_; intro gb191 hg w36 hbox hb; have n0_ := Aside0.mk (Kd.R_below (pR HO_5) hb); have n1_ := Aside0.mk (below_step (w := w) bW hb); have n2_ := Aside0.mk (hbox); have n3_ := Aside0.mk (gS (w := w) hg); have n4_ := n3_; clear HO_5; clear HB; have HO_5 := n0_; have HB := n1_; have BK191 := n2_; have GW191 := n3_; have GE191 := n4_; clear n0_ n1_ n2_ n3_ n4_; clear hb hbox hg; obtain ⟨hcz37_0, hcz37_1⟩ := cz2 BK191; obtain ⟨hfz37_0, hfz37_1⟩ := fz2 BK191) | (go_at_call 57; (with_reducible refine (impl_find.calls _ _ l1 ((rd_T55 l0 x50_2).f0) t192 false _ ?side1 ?side2 A30.out).mono ?_); (case side1 => exact Kd.C_below HR1.out bW); (case side2 => exact HC1.out); rintro e w38 ⟨rfl, hb⟩; have n0_ := Aside0.mk (Kd.R_below (by (with_reducible repeat (first | apply Kd.R_alloc | apply Kd.R_drewN | apply Kd.R_drew)); exact (Kd.R_mono (Kd.R_far (p := ⟨gb191, 1, none⟩) (Kd.R_far (p := ⟨gb191, 0, none⟩) (Kd.R_types HO_5.out BK191.out (by decide)) (fun _ hk => hk.2) (.string ((rd_T55 l0 x50_2).f0))) (fun _ hk => hk.2) (.int .i64 ((rd_T55 l0 x50_2).f1))) (fun _ h_ => h_.1))) hb); have n1_ := Aside0.mk (blk_below (g := gb191) (o := .cells #[.string ((rd_T55 l0 x50_2).f0), .int .i64 ((rd_T55 l0 x50_2).f1)] 55 (0, 0)) (by (with_reducible repeat (first | refine blk_drewN ?_ _ | refine blk_drew ?_ | refine blk_alloc ?_ _)); refine blk_put (cs := #[.string ((rd_T55 l0 x50_2).f0), .int .i64 0]) ?_ 1 _ rfl; (with_reducible repeat (first | refine blk_drewN ?_ _ | refine blk_drew ?_ | refine blk_alloc ?_ _)); refine blk_put (cs := #[.string (⟨#[]⟩ : ByteArray), .int .i64 0]) ?_ 0 _ rfl; (with_reducible repeat (first | refine blk_drewN ?_ _ | refine blk_drew ?_ | refine blk_alloc ?_ _)); exact BK191.out) hb); have n2_ := Aside0.mk (below_step (w := w) bW hb); clear HO_5; clear BK191; clear HB; have HO_5 := n0_; have BK191 := n1_; have HB := n2_; clear n0_ n1_ n2_; (try clear hb); (try clear hb2); (try clear hk); (try clear hi); obtain ⟨hcz39_0, hcz39_1⟩ := cz2 BK191; obtain ⟨hfz39_0, hfz39_1⟩ := fz2 BK191) | ((with_reducible refine gate_builtin (b := .append) (xs := #[.tmp 63, .tmp 67]) rfl ?_); at_builtin; refine Kd.R_append k62 (w0 := w) w.heap.size rfl (.tmp 63) (.tmp 67) 34 62 (.agg #[(.string ⟨#[]⟩), (.int .i64 0), (.bool false)]) 32 rfl Try.underlying34 info62 rfl (by decide) (by omega) u5 x5_2 (⟨(rd_T55 l0 x50_2).f0, 0, true⟩ : S62) [.string ((rd_T55 l0 x50_2).f0), .int .i64 0, .bool true] (fun _ => True) (fun _ => False) rfl rfl ?aP (fun _ hk => hk.elim) ?aF ?aO ?aB ?aS ?aL ?_; (case aP => exact k62_mkM _ _ _ (⟨(rd_T55 l0 x50_2).f0, 0, true⟩ : S62)); (case aB => exact bW); (case aF => exact (fun _ _ => trivial)); (case aO => exact (pR HO_5)); (case aS => exact (below_size (w := w) bW)); (case aL => have := LMc35.out; omega); intro v195 w40 ho hb hg hat; rw [← Ny194.out] at ho; have n0_ := Aside0.mk (blk_grown (g := gb191) (o := .cells #[.string ((rd_T55 l0 x50_2).f0), .int .i64 ((rd_T55 l0 x50_2).f1)] 55 (0, 0)) (kB BK191) hg (Kd.R_ne HO_5.out BK191.out (by decide))); have n1_ := Aside0.mk (hb); have n2_ := Aside0.mk (ho); clear BK191; clear HB; clear HO_5; have BK191 := n0_; have HB := n1_; have HO196 := n2_; clear n0_ n1_ n2_; clear ho hb hg hat)); try go_wp2_with (first | ((with_reducible refine gate_dst (N := 11) rfl ?_); refine bE (N := 11) (cs := #[.string (⟨#[]⟩ : ByteArray), .int .i64 0]) (t := 55) ?_; intro gb191 hg w36 hbox hb; have n0_ := Aside0.mk (Kd.R_below (pR HO_5) hb); have n1_ := Aside0.mk (below_step (w := w) bW hb); have n2_ := Aside0.mk (hbox); have n3_ := Aside0.mk (gS (w := w) hg); have n4_ := n3_; clear HO_5; clear HB; have HO_5 := n0_; have HB := n1_; have BK191 := n2_; have GW191 := n3_; have GE191 := n4_; clear n0_ n1_ n2_ n3_ n4_; clear hb hbox hg; obtain ⟨hcz37_0, hcz37_1⟩ := cz2 BK191; obtain ⟨hfz37_0, hfz37_1⟩ := fz2 BK191) | (go_at_call 57; (with_reducible refine (impl_find.calls _ _ l1 ((rd_T55 l0 x50_2).f0) t192 false _ ?side1 ?side2 A30.out).mono ?_); (case side1 => exact Kd.C_below HR1.out bW); (case side2 => exact HC1.out); rintro e w38 ⟨rfl, hb⟩; have n0_ := Aside0.mk (Kd.R_below (by (with_reducible repeat (first | apply Kd.R_alloc | apply Kd.R_drewN | apply Kd.R_drew)); exact (Kd.R_mono (Kd.R_far (p := ⟨gb191, 1, none⟩) (Kd.R_far (p := ⟨gb191, 0, none⟩) (Kd.R_types HO_5.out BK191.out (by decide)) (fun _ hk => hk.2) (.string ((rd_T55 l0 x50_2).f0))) (fun _ hk => hk.2) (.int .i64 ((rd_T55 l0 x50_2).f1))) (fun _ h_ => h_.1))) hb); have n1_ := Aside0.mk (blk_below (g := gb191) (o := .cells #[.string ((rd_T55 l0 x50_2).f0), .int .i64 ((rd_T55 l0 x50_2).f1)] 55 (0, 0)) (by (with_reducible repeat (first | refine blk_drewN ?_ _ | refine blk_drew ?_ | refine blk_alloc ?_ _)); refine blk_put (cs := #[.string ((rd_T55 l0 x50_2).f0), .int .i64 0]) ?_ 1 _ rfl; (with_reducible repeat (first | refine blk_drewN ?_ _ | refine blk_drew ?_ | refine blk_alloc ?_ _)); refine blk_put (cs := #[.string (⟨#[]⟩ : ByteArray), .int .i64 0]) ?_ 0 _ rfl; (with_reducible repeat (first | refine blk_drewN ?_ _ | refine blk_drew ?_ | refine blk_alloc ?_ _)); exact BK191.out) hb); have n2_ := Aside0.mk (below_step (w := w) bW hb); clear HO_5; clear BK191; clear HB; have HO_5 := n0_; have BK191 := n1_; have HB := n2_; clear n0_ n1_ n2_; (try clear hb); (try clear hb2); (try clear hk); (try clear hi); obtain ⟨hcz39_0, hcz39_1⟩ := cz2 BK191; obtain ⟨hfz39_0, hfz39_1⟩ := fz2 BK191) | ((with_reducible refine gate_builtin (b := .append) (xs := #[.tmp 63, .tmp 67]) rfl ?_); at_builtin; refine Kd.R_append k62 (w0 := w) w.heap.size rfl (.tmp 63) (.tmp 67) 34 62 (.agg #[(.string ⟨#[]⟩), (.int .i64 0), (.bool false)]) 32 rfl Try.underlying34 info62 rfl (by decide) (by omega) u5 x5_2 (⟨(rd_T55 l0 x50_2).f0, 0, true⟩ : S62) [.string ((rd_T55 l0 x50_2).f0), .int .i64 0, .bool true] (fun _ => True) (fun _ => False) rfl rfl ?aP (fun _ hk => hk.elim) ?aF ?aO ?aB ?aS ?aL ?_; (case aP => exact k62_mkM _ _ _ (⟨(rd_T55 l0 x50_2).f0, 0, true⟩ : S62)); (case aB => exact bW); (case aF => exact (fun _ _ => trivial)); (case aO => exact (pR HO_5)); (case aS => exact (below_size (w := w) bW)); (case aL => have := LMc35.out; omega); intro v195 w40 ho hb hg hat; rw [← Ny194.out] at ho; have n0_ := Aside0.mk (blk_grown (g := gb191) (o := .cells #[.string ((rd_T55 l0 x50_2).f0), .int .i64 ((rd_T55 l0 x50_2).f1)] 55 (0, 0)) (kB BK191) hg (Kd.R_ne HO_5.out BK191.out (by decide))); have n1_ := Aside0.mk (hb); have n2_ := Aside0.mk (ho); clear BK191; clear HB; clear HO_5; have BK191 := n0_; have HB := n1_; have HO196 := n2_; clear n0_ n1_ n2_; clear ho hb hg hat)))
                      go_roundg k2
                      case measure => have := HK1.out; have := HK2.out; omega
                      case rel => exact ⟨(y194), (wrap64 (x50_2 + 1)), vE, H', ⟨by have := HK1.out; have := HK2.out; omega⟩, ⟨by (with_reducible repeat (first | apply Kd.R_alloc | apply Kd.R_drewN | apply Kd.R_drew)); exact HO196.out⟩, ⟨bW⟩⟩
                    · rw [if_neg c35] at H
                      exact absurd H (by simp)
                · rw [if_neg c29] at H
                  exact absurd H (by simp)
              · rw [if_neg c28] at H
                exact absurd H (by simp)
            · rw [if_neg c27] at H
              have c27b0 : decide (x50_2 < (l0.length : Int)) = false := decide_eq_false c27
              clear c27
              replace H := Option.bind_eq_some_iff.mp H
              obtain ⟨t197, A410, H⟩ := H
              replace H : (some t197) = some r := H
              have A41 := Aside0.mk A410
              clear A410
              obtain rfl := Option.some.inj H
              obtain ⟨Ao42, co42, eo42⟩ := Kd.R_slice HO_5.out
              subst eo42
              go_wp2_with (first | (go_at_call 58; (with_reducible refine (sort_Edit.calls (fun k_ => some k_ = (.slice Ao42 x5_2.length co42 : Value).ownBlock) (.slice Ao42 x5_2.length co42) x5_2 t197 w _ ?side1 ?side2 A41.out).mono ?_); (case side1 => repeat (first | (with_reducible first | exact HB.out | apply below_alloc | apply pw_below_drewN | apply below_drew1) | exact HB.out)); (case side2 => exact Kd.R_tight rfl HO_5.out); rintro e w43 ⟨rfl, hy0, hb, hkp⟩; have n0_ := Aside0.mk (Kd.R_reok rfl hy0 (fun k_ e_ => HO_5.out.1 k_ e_)); have n1_ := Aside0.mk (hb); clear HO_5; clear HB; have HO_5 := n0_; have HB := n1_; clear n0_ n1_; (try clear hb); (try clear hkp); (try clear hy0)))
              repeat (go_quiet (first | (go_at_call 58; (with_reducible refine (sort_Edit.calls (fun k_ => some k_ = (.slice Ao42 x5_2.length co42 : Value).ownBlock) (.slice Ao42 x5_2.length co42) x5_2 t197 w _ ?side1 ?side2 A41.out).mono ?_); (case side1 => repeat (first | (with_reducible first | exact HB.out | apply below_alloc | apply pw_below_drewN | apply below_drew1) | exact HB.out)); (case side2 => exact Kd.R_tight rfl HO_5.out); rintro e w43 ⟨rfl, hy0, hb, hkp⟩; have n0_ := Aside0.mk (Kd.R_reok rfl hy0 (fun k_ e_ => HO_5.out.1 k_ e_)); have n1_ := Aside0.mk (hb); clear HO_5; clear HB; have HO_5 := n0_; have HB := n1_; clear n0_ n1_; (try clear hb); (try clear hkp); (try clear hy0))); try go_wp2_with (first | (go_at_call 58; (with_reducible refine (sort_Edit.calls (fun k_ => some k_ = (.slice Ao42 x5_2.length co42 : Value).ownBlock) (.slice Ao42 x5_2.length co42) x5_2 t197 w _ ?side1 ?side2 A41.out).mono ?_); (case side1 => repeat (first | (with_reducible first | exact HB.out | apply below_alloc | apply pw_below_drewN | apply below_drew1) | exact HB.out)); (case side2 => exact Kd.R_tight rfl HO_5.out); rintro e w43 ⟨rfl, hy0, hb, hkp⟩; have n0_ := Aside0.mk (Kd.R_reok rfl hy0 (fun k_ e_ => HO_5.out.1 k_ e_)); have n1_ := Aside0.mk (hb); clear HO_5; clear HB; have HO_5 := n0_; have HB := n1_; clear n0_ n1_; (try clear hb); (try clear hkp); (try clear hy0))))
              go_ret
              exact ⟨_, by first | rfl | (simp [errW_none, errW_some] <;> rfl) | (simp [*, errW_none, errW_some] <;> rfl), by (with_reducible repeat (first | apply Kd.R_alloc | apply Kd.R_drewN | apply Kd.R_drew)); exact HO_5.out, bW⟩
end Go.Proofs.Ytblejbgkcgajgaa.Q
end

section
namespace Go.Proofs.Ytblejbgkcgajgaa.Q
open Go.RowKit Go.Proofs.YtblejbgkcgajgaaW.PrintWords Go.Proofs.YtblejbgkcgajgaaW.PrintLast Go.Proofs.YtblejbgkcgajgaaW.PrintMore
attribute [local go_sem] max2_int min2_int max_two min_two max_three min_three max_four min_four   -- for this text's walks alone
set_option linter.unusedVariables false
set_option linter.unusedSimpArgs false
attribute [local go_sem] bin_leq bin_gtr bin_geq
def impl_Entry_49.f (l0 : List (S55)) : Option (Bool) := some (decide ((l0.length : Int) ≤ 4096))
set_option maxHeartbeats 8000000 in
set_option maxRecDepth 100000 in
theorem impl_Entry_49.calls (A0 : Option Addr) (c0 : Nat) (l0 : List (S55)) (r : Bool) (w : World) (hr0 : Kd.C k55 w A0 l0.length l0) (hc0 : l0.length ≤ c0) (h : impl_Entry_49.f l0 = some r) :
    Calls Try.prog 49 #[.slice A0 l0.length c0] w fun e w' => e = .returned (.bool r) ∧ Drawn0 w w' := by
  have HR0 := Aside0.mk hr0
  have HC0 := Aside0.mk hc0
  clear hr0 hc0
  have H : (some (decide ((l0.length : Int) ≤ 4096))) = some r := h
  clear h
  obtain rfl := Option.some.inj H
  go_enter Try.func49, Try.ntmps49
  go_wp2
  go_ret
  exact ⟨by first | rfl | (simp; done) | (simp [*]; done), by repeat (first | exact Drawn0.refl _ | apply Drawn0.step)⟩
end Go.Proofs.Ytblejbgkcgajgaa.Q
end

section
namespace Go.Proofs.Ytblejbgkcgajgaa.Q
open Go.RowKit Go.Proofs.YtblejbgkcgajgaaW.PrintWords Go.Proofs.YtblejbgkcgajgaaW.PrintLast Go.Proofs.YtblejbgkcgajgaaW.PrintMore
attribute [local go_sem] max2_int min2_int max_two min_two max_three min_three max_four min_four   -- for this text's walks alone
set_option linter.unusedVariables false
set_option linter.unusedSimpArgs false
attribute [local go_sem] bin_leq bin_gtr bin_geq
def Asks_Map (g : Nat) (lb : Array Value) (p : (List S55) → Bool) (w : World) (l : List (List S55)) : Prop :=
  ∀ (W : World) (x : (List S55)) (A5 : Option Addr) (c5 : Nat), Below w.heap.size w W → x ∈ l → x.length ≤ c5 → Kd.C k55 W A5 x.length x → Calls Try.prog g (#[.slice A5 x.length c5] ++ lb) W fun e w' => e = .returned (.bool (p x)) ∧ Below W.heap.size W w'
set_option maxHeartbeats 2000000 in
set_option maxRecDepth 100000 in
theorem idxF_Map (g : Nat) (lb : Array Value) (eg : ∀ args w, (callFunc g args).run Try.prog w = .ok (.enter g args) w) (p : (List S55) → Bool) (A0 : Option Addr) (c0 : Nat) (l0 : List (List S55)) (w : World) (hr0 : Kd.C (Kd.slice 55 k55) w A0 l0.length l0) (hc0 : l0.length ≤ c0) (hp : Asks_Map g lb p w l0) :
    Calls Try.prog 86 #[.slice A0 l0.length c0, .func (.func g) #[] lb] w fun e w' => e = .returned (.int .i64 (idxI p l0)) ∧ Below w.heap.size w w' := by
  have HM : l0.length ≤ 9223372036854775807 := hr0.2.1
  have HR0 := Aside0.mk hr0
  have HP := Aside0.mk hp
  clear hr0 hc0 hp
  go_enter Try.func86, Try.ntmps86
  go_wp2
  go_loopg [8] l0.length (fun gk v8 w' => ∃ kk : Nat, kk ≤ l0.length ∧ l0.length - kk ≤ gk ∧ v8 = .int .i64 kk ∧ Aside0 (∀ j (hj : j < l0.length), j < kk → p l0[j] = false) ∧ Aside0 (Below w.heap.size w w'))
  case atStart => exact ⟨0, Nat.zero_le _, by omega, rfl, ⟨fun j hj h => absurd h (Nat.not_lt_zero _)⟩, ⟨Below.refl _ _⟩⟩
  case round =>
    obtain ⟨kk, hkk, hg, rfl, HA, HB⟩ := hrel
    by_cases hlt : kk < l0.length
    · have hltz : (kk : Int) < (l0.length : Int) := by omega
      have HRW := Aside0.mk (Kd.C_below HR0.out HB.out)
      obtain ⟨ad, cs5, e1, _, hK, hcs⟩ := Kd.C_get HRW.out ([] : (List S55)) (kk : Int) (by omega) hltz
      cases e1
      obtain ⟨A5, c5, rfl, hl5, hi5⟩ := hK
      have hx := hcs 0 _ rfl
      clear hcs
      have ex : l0.getD (kk : Int).toNat ([] : (List S55)) = l0[kk] := by simp [List.getD_eq_getElem?_getD, List.getElem?_eq_getElem hlt]
      rw [ex] at hx hl5 hi5
      simp only [Int.toNat_natCast, Kd.slice, Nat.mul_one, Nat.add_zero] at hx
      have hcall := HP.out _ l0[kk] A5 c5 HB.out (List.getElem_mem hlt) hl5 hi5
      clear hl5 hi5
      obtain ⟨y, hy⟩ : ∃ y, y = l0[kk] := ⟨_, rfl⟩
      rw [← hy] at hx hcall
      have HY := Aside0.mk hy
      clear hy ex
      cases hq : p y with
      | true =>
        rw [hq] at hcall
        have HC := Aside0.mk hcall
        have HQ := Aside0.mk hq
        clear hcall hq
        go_wp2_with ((with_reducible refine HC.out.mono ?_); rintro e w' ⟨rfl, hb'⟩)
        go_ret
        refine ⟨?_, below_then HB.out HB.out.size hb'⟩
        rw [idxI_some hlt (fun j hj => HA.out j (by omega) hj) (by rw [← HY.out]; exact HQ.out)]; rfl
      | false =>
        rw [hq] at hcall
        have HC := Aside0.mk hcall
        have HQ := Aside0.mk hq
        clear hcall hq
        go_wp2_with ((with_reducible refine HC.out.mono ?_); rintro e w' ⟨rfl, hb'⟩)
        go_roundg (l0.length - (kk + 1))
        case measure => omega
        case rel =>
          refine ⟨kk + 1, by omega, by omega, by go_num, ⟨fun j hj h => ?_⟩, ⟨below_then HB.out HB.out.size hb'⟩⟩
          by_cases e : j = kk
          · subst e
            rw [← HY.out]; exact HQ.out
          · exact HA.out j hj (by omega)
    · have hltz : ¬ (kk : Int) < (l0.length : Int) := by omega
      obtain rfl : kk = l0.length := by omega
      go_wp2
      go_ret
      exact ⟨by rw [idxI_none (fun j hj => HA.out j hj (by omega))]; rfl, HB.out⟩
end Go.Proofs.Ytblejbgkcgajgaa.Q
end

section
namespace Go.Proofs.Ytblejbgkcgajgaa.Q
open Go.RowKit Go.Proofs.YtblejbgkcgajgaaW.PrintWords Go.Proofs.YtblejbgkcgajgaaW.PrintLast Go.Proofs.YtblejbgkcgajgaaW.PrintMore
attribute [local go_sem] max2_int min2_int max_two min_two max_three min_three max_four min_four   -- for this text's walks alone
set_option linter.unusedVariables false
set_option linter.unusedSimpArgs false
attribute [local go_sem] bin_leq bin_gtr bin_geq
set_option maxHeartbeats 2000000 in
set_option maxRecDepth 100000 in
theorem hasF_Map (g : Nat) (lb : Array Value) (eg : ∀ args w, (callFunc g args).run Try.prog w = .ok (.enter g args) w) (p : (List S55) → Bool) (A0 : Option Addr) (c0 : Nat) (l0 : List (List S55)) (w : World) (hr0 : Kd.C (Kd.slice 55 k55) w A0 l0.length l0) (hc0 : l0.length ≤ c0) (hp : Asks_Map g lb p w l0) :
    Calls Try.prog 72 #[.slice A0 l0.length c0, .func (.func g) #[] lb] w fun e w' => e = .returned (.bool (decide (0 ≤ idxI p l0))) ∧ Below w.heap.size w w' := by
  have HR0 := Aside0.mk hr0
  have HC0 := Aside0.mk hc0
  have HP := Aside0.mk hp
  have HE := Aside0.mk eg
  clear hr0 hc0 hp eg
  go_enter Try.func72, Try.ntmps72
  go_wp2_with (refine (idxF_Map g lb HE.out p A0 c0 l0 _ HR0.out HC0.out HP.out).mono ?_; rintro e w' ⟨rfl, hb⟩)
  go_ret
  exact ⟨rfl, hb⟩
theorem notF_Map (g : Nat) (lb : Array Value) (eg : ∀ args w, (callFunc g args).run Try.prog w = .ok (.enter g args) w) (p : (List S55) → Bool) (l : List (List S55)) (w : World) (B : Nat) (hB : B < w.heap.size) (hc : w.cell? ⟨B, 0, none⟩ = some (.func (.func g) #[] lb)) (hp : Asks_Map g lb p w l) :
    Asks_Map 73 #[.pointer (some ⟨B, 0, none⟩)] (fun x => !p x) w l := by
  intro W x A5 c5 hW hx hl5 hi5
  have hc' : W.cell? ⟨B, 0, none⟩ = some (.func (.func g) #[] lb) := (hW.cell (p := ⟨B, 0, none⟩) hB).trans hc
  have hB' : B < W.heap.size := Nat.lt_of_lt_of_le hB hW.size
  have HC := Aside0.mk (hp W x A5 c5 hW hx hl5 hi5)
  clear hp hx hc hl5 hi5
  go_enter Try.func73, Try.ntmps73
  go_wp2_with (refine HC.out.mono ?_; rintro e w' ⟨rfl, hb⟩)
  go_ret
  exact ⟨rfl, hb⟩
set_option maxHeartbeats 2000000 in
set_option maxRecDepth 100000 in
theorem allF_Map (g : Nat) (lb : Array Value) (eg : ∀ args w, (callFunc g args).run Try.prog w = .ok (.enter g args) w) (p : (List S55) → Bool) (A0 : Option Addr) (c0 : Nat) (l0 : List (List S55)) (w : World) (hr0 : Kd.C (Kd.slice 55 k55) w A0 l0.length l0) (hc0 : l0.length ≤ c0) (hp : Asks_Map g lb p w l0) :
    Calls Try.prog 56 #[.slice A0 l0.length c0, .func (.func g) #[] lb] w fun e w' => e = .returned (.bool (l0.all p)) ∧ Below w.heap.size w w' := by
  have e94 := idxI_all p l0
  have HN := Aside0.mk e94
  have HB0 : Below w.heap.size w (w.alloc (.cells #[.func (.func g) #[] lb] 52)) := (Below.refl _ _).alloc (Nat.le_refl _) _
  have HR0 := Aside0.mk (Kd.C_below hr0 HB0)
  have HP := Aside0.mk (notF_Map g lb eg p l0 (w.alloc (.cells #[.func (.func g) #[] lb] 52)) w.heap.size (by simp) (by simp) (fun W x A5 c5 hW hx hl5 hi5 => hp W x A5 c5 (below_then HB0 HB0.size hW) hx hl5 hi5))
  have HC0 := Aside0.mk hc0
  have HBA := Aside0.mk HB0
  clear hr0 hc0 hp eg e94 HB0
  go_enter Try.func56, Try.ntmps56
  go_wp2_with (refine (hasF_Map 73 #[.pointer (some ⟨w.heap.size, 0, none⟩)] (enters_ Try.func73 (by kernel_rfl) rfl) (fun x => !p x) A0 c0 l0 _ HR0.out HC0.out HP.out).mono ?_; rintro e w' ⟨rfl, hb⟩)
  go_ret
  refine ⟨?_, below_then HBA.out HBA.out.size hb⟩
  show Ending.returned (.bool (!decide (0 ≤ idxI (fun x => !p x) l0))) = _
  rw [HN.out]
end Go.Proofs.Ytblejbgkcgajgaa.Q
end

section
namespace Go.Proofs.Ytblejbgkcgajgaa.Q
open Go.RowKit Go.Proofs.YtblejbgkcgajgaaW.PrintWords Go.Proofs.YtblejbgkcgajgaaW.PrintLast Go.Proofs.YtblejbgkcgajgaaW.PrintMore
attribute [local go_sem] max2_int min2_int max_two min_two max_three min_three max_four min_four   -- for this text's walks alone
set_option linter.unusedVariables false
set_option linter.unusedSimpArgs false
attribute [local go_sem] bin_leq bin_gtr bin_geq
def areAllMap_isList.f (l0 : List (List (S55))) : Option (Bool) := some (l0.all (fun x => decide (x.length ≤ 4096)))
theorem areAllMap_isList.calls (A0 : Option Addr) (c0 : Nat) (l0 : List (List (S55))) (r : Bool) (w : World) (hr0 : Kd.C (Kd.slice 55 k55) w A0 l0.length l0) (hc0 : l0.length ≤ c0) (h : areAllMap_isList.f l0 = some r) :
    Calls Try.prog 56 #[.slice A0 l0.length c0, .func (.func 49) #[] #[]] w fun e w' => e = .returned (.bool r) ∧ Below w.heap.size w w' := by
  obtain rfl := Option.some.inj h
  refine allF_Map 49 #[] (enters_ Try.func49 (by kernel_rfl) rfl) _ A0 c0 l0 w hr0 hc0 ?_
  intro W x A5 c5 hW hx hl5 hi5
  have e : (impl_Entry_49.f x) = some (decide (x.length ≤ 4096)) := by
    unfold impl_Entry_49.f
    congr 1
    rw [decide_eq_decide]
    omega
  exact (impl_Entry_49.calls A5 c5 x _ W hi5 hl5 e).mono fun e w' h => ⟨h.1, h.2.below⟩
end Go.Proofs.Ytblejbgkcgajgaa.Q
end

section
namespace Go.Proofs.Ytblejbgkcgajgaa.Q
open Go.RowKit Go.Proofs.YtblejbgkcgajgaaW.PrintWords Go.Proofs.YtblejbgkcgajgaaW.PrintLast Go.Proofs.YtblejbgkcgajgaaW.PrintMore
attribute [local go_sem] max2_int min2_int max_two min_two max_three min_three max_four min_four   -- for this text's walks alone
set_option linter.unusedVariables false
set_option linter.unusedSimpArgs false
attribute [local go_sem] bin_leq bin_gtr bin_geq
def impl_within.f (a0 : Int) (a1 : Int) (a2 : Int) : Option (Bool) := if a1 ≤ a0 then (some (decide (a0 ≤ a2))) else (some false)
set_option maxHeartbeats 8000000 in
set_option maxRecDepth 100000 in
theorem impl_within.calls (a0 : Int) (a1 : Int) (a2 : Int) (r : Bool) (w : World) (h : impl_within.f a0 a1 a2 = some r) :
    Calls Try.prog 79 #[.int .i64 a0, .int .i64 a1, .int .i64 a2] w fun e w' => e = .returned (.bool r) ∧ Drawn0 w w' := by
  have H : (if a1 ≤ a0 then (some (decide (a0 ≤ a2))) else (some false)) = some r := h
  clear h
  by_cases c4 : a1 ≤ a0
  · rw [if_pos c4] at H
    have c4b0 : decide (a1 ≤ a0) = true := decide_eq_true c4
    clear c4
    obtain rfl := Option.some.inj H
    go_enter Try.func79, Try.ntmps79
    go_wp2
    go_ret
    exact ⟨by first | rfl | (simp; done) | (simp [*]; done), by repeat (first | exact Drawn0.refl _ | apply Drawn0.step)⟩
  · rw [if_neg c4] at H
    have c4b0 : decide (a1 ≤ a0) = false := decide_eq_false c4
    clear c4
    obtain rfl := Option.some.inj H
    go_enter Try.func79, Try.ntmps79
    go_wp2
    go_ret
    exact ⟨by first | rfl | (simp; done) | (simp [*]; done), by repeat (first | exact Drawn0.refl _ | apply Drawn0.step)⟩
end Go.Proofs.Ytblejbgkcgajgaa.Q
end

section
namespace Go.Proofs.Ytblejbgkcgajgaa.Q
open Go.RowKit Go.Proofs.YtblejbgkcgajgaaW.PrintWords Go.Proofs.YtblejbgkcgajgaaW.PrintLast Go.Proofs.YtblejbgkcgajgaaW.PrintMore
attribute [local go_sem] max2_int min2_int max_two min_two max_three min_three max_four min_four   -- for this text's walks alone
set_option linter.unusedVariables false
set_option linter.unusedSimpArgs false
attribute [local go_sem] bin_leq bin_gtr bin_geq
def Asks_byte (g : Nat) (lb : Array Value) (p : Int → Bool) (w : World) (l : List Int) : Prop :=
  ∀ (W : World) (x : Int), Below w.heap.size w W → x ∈ l → Calls Try.prog g (#[.int .u8 x] ++ lb) W fun e w' => e = .returned (.bool (p x)) ∧ Below W.heap.size W w'
set_option maxHeartbeats 2000000 in
set_option maxRecDepth 100000 in
theorem idxF_byte (g : Nat) (lb : Array Value) (eg : ∀ args w, (callFunc g args).run Try.prog w = .ok (.enter g args) w) (p : Int → Bool) (A0 : Option Addr) (c0 : Nat) (l0 : List Int) (w : World) (hr0 : Kd.C (Kd.int .u8) w A0 l0.length l0) (hc0 : l0.length ≤ c0) (hp : Asks_byte g lb p w l0) :
    Calls Try.prog 106 #[.slice A0 l0.length c0, .func (.func g) #[] lb] w fun e w' => e = .returned (.int .i64 (idxI p l0)) ∧ Below w.heap.size w w' := by
  have HM : l0.length ≤ 9223372036854775807 := hr0.2.1
  have HR0 := Aside0.mk hr0
  have HP := Aside0.mk hp
  clear hr0 hc0 hp
  go_enter Try.func106, Try.ntmps106
  go_wp2
  go_loopg [8] l0.length (fun gk v8 w' => ∃ kk : Nat, kk ≤ l0.length ∧ l0.length - kk ≤ gk ∧ v8 = .int .i64 kk ∧ Aside0 (∀ j (hj : j < l0.length), j < kk → p l0[j] = false) ∧ Aside0 (Below w.heap.size w w'))
  case atStart => exact ⟨0, Nat.zero_le _, by omega, rfl, ⟨fun j hj h => absurd h (Nat.not_lt_zero _)⟩, ⟨Below.refl _ _⟩⟩
  case round =>
    obtain ⟨kk, hkk, hg, rfl, HA, HB⟩ := hrel
    by_cases hlt : kk < l0.length
    · have hltz : (kk : Int) < (l0.length : Int) := by omega
      have HRW := Aside0.mk (Kd.C_below HR0.out HB.out)
      obtain ⟨ad, e1, hx⟩ := Kd.at_int HRW.out (kk : Int) (by omega) hltz
      cases e1
      have ex : rd l0 (kk : Int) = l0[kk] := by simp [rd, List.getD_eq_getElem?_getD, List.getElem?_eq_getElem hlt]
      rw [ex] at hx
      simp only [Int.toNat_natCast] at hx
      have hcall := HP.out _ l0[kk] HB.out (List.getElem_mem hlt)
      obtain ⟨y, hy⟩ : ∃ y, y = l0[kk] := ⟨_, rfl⟩
      rw [← hy] at hx hcall
      have HY := Aside0.mk hy
      clear hy ex
      cases hq : p y with
      | true =>
        rw [hq] at hcall
        have HC := Aside0.mk hcall
        have HQ := Aside0.mk hq
        clear hcall hq
        go_wp2_with ((with_reducible refine HC.out.mono ?_); rintro e w' ⟨rfl, hb'⟩)
        go_ret
        refine ⟨?_, below_then HB.out HB.out.size hb'⟩
        rw [idxI_some hlt (fun j hj => HA.out j (by omega) hj) (by rw [← HY.out]; exact HQ.out)]; rfl
      | false =>
        rw [hq] at hcall
        have HC := Aside0.mk hcall
        have HQ := Aside0.mk hq
        clear hcall hq
        go_wp2_with ((with_reducible refine HC.out.mono ?_); rintro e w' ⟨rfl, hb'⟩)
        go_roundg (l0.length - (kk + 1))
        case measure => omega
        case rel =>
          refine ⟨kk + 1, by omega, by omega, by go_num, ⟨fun j hj h => ?_⟩, ⟨below_then HB.out HB.out.size hb'⟩⟩
          by_cases e : j = kk
          · subst e
            rw [← HY.out]; exact HQ.out
          · exact HA.out j hj (by omega)
    · have hltz : ¬ (kk : Int) < (l0.length : Int) := by omega
      obtain rfl : kk = l0.length := by omega
      go_wp2
      go_ret
      exact ⟨by rw [idxI_none (fun j hj => HA.out j hj (by omega))]; rfl, HB.out⟩
end Go.Proofs.Ytblejbgkcgajgaa.Q
end

section
namespace Go.Proofs.Ytblejbgkcgajgaa.Q
open Go.RowKit Go.Proofs.YtblejbgkcgajgaaW.PrintWords Go.Proofs.YtblejbgkcgajgaaW.PrintLast Go.Proofs.YtblejbgkcgajgaaW.PrintMore
attribute [local go_sem] max2_int min2_int max_two min_two max_three min_three max_four min_four   -- for this text's walks alone
set_option linter.unusedVariables false
set_option linter.unusedSimpArgs false
attribute [local go_sem] bin_leq bin_gtr bin_geq
set_option maxHeartbeats 2000000 in
set_option maxRecDepth 100000 in
theorem hasF_byte (g : Nat) (lb : Array Value) (eg : ∀ args w, (callFunc g args).run Try.prog w = .ok (.enter g args) w) (p : Int → Bool) (A0 : Option Addr) (c0 : Nat) (l0 : List Int) (w : World) (hr0 : Kd.C (Kd.int .u8) w A0 l0.length l0) (hc0 : l0.length ≤ c0) (hp : Asks_byte g lb p w l0) :
    Calls Try.prog 98 #[.slice A0 l0.length c0, .func (.func g) #[] lb] w fun e w' => e = .returned (.bool (decide (0 ≤ idxI p l0))) ∧ Below w.heap.size w w' := by
  have HR0 := Aside0.mk hr0
  have HC0 := Aside0.mk hc0
  have HP := Aside0.mk hp
  have HE := Aside0.mk eg
  clear hr0 hc0 hp eg
  go_enter Try.func98, Try.ntmps98
  go_wp2_with (refine (idxF_byte g lb HE.out p A0 c0 l0 _ HR0.out HC0.out HP.out).mono ?_; rintro e w' ⟨rfl, hb⟩)
  go_ret
  exact ⟨rfl, hb⟩
theorem notF_byte (g : Nat) (lb : Array Value) (eg : ∀ args w, (callFunc g args).run Try.prog w = .ok (.enter g args) w) (p : Int → Bool) (l : List Int) (w : World) (B : Nat) (hB : B < w.heap.size) (hc : w.cell? ⟨B, 0, none⟩ = some (.func (.func g) #[] lb)) (hp : Asks_byte g lb p w l) :
    Asks_byte 99 #[.pointer (some ⟨B, 0, none⟩)] (fun x => !p x) w l := by
  intro W x hW hx
  have hc' : W.cell? ⟨B, 0, none⟩ = some (.func (.func g) #[] lb) := (hW.cell (p := ⟨B, 0, none⟩) hB).trans hc
  have hB' : B < W.heap.size := Nat.lt_of_lt_of_le hB hW.size
  have HC := Aside0.mk (hp W x hW hx)
  clear hp hx hc
  go_enter Try.func99, Try.ntmps99
  go_wp2_with (refine HC.out.mono ?_; rintro e w' ⟨rfl, hb⟩)
  go_ret
  exact ⟨rfl, hb⟩
set_option maxHeartbeats 2000000 in
set_option maxRecDepth 100000 in
theorem allF_byte (g : Nat) (lb : Array Value) (eg : ∀ args w, (callFunc g args).run Try.prog w = .ok (.enter g args) w) (p : Int → Bool) (A0 : Option Addr) (c0 : Nat) (l0 : List Int) (w : World) (hr0 : Kd.C (Kd.int .u8) w A0 l0.length l0) (hc0 : l0.length ≤ c0) (hp : Asks_byte g lb p w l0) :
    Calls Try.prog 81 #[.slice A0 l0.length c0, .func (.func g) #[] lb] w fun e w' => e = .returned (.bool (l0.all p)) ∧ Below w.heap.size w w' := by
  have e94 := idxI_all p l0
  have HN := Aside0.mk e94
  have HB0 : Below w.heap.size w (w.alloc (.cells #[.func (.func g) #[] lb] 92)) := (Below.refl _ _).alloc (Nat.le_refl _) _
  have HR0 := Aside0.mk (Kd.C_below hr0 HB0)
  have HP := Aside0.mk (notF_byte g lb eg p l0 (w.alloc (.cells #[.func (.func g) #[] lb] 92)) w.heap.size (by simp) (by simp) (fun W x hW hx => hp W x (below_then HB0 HB0.size hW) hx))
  have HC0 := Aside0.mk hc0
  have HBA := Aside0.mk HB0
  clear hr0 hc0 hp eg e94 HB0
  go_enter Try.func81, Try.ntmps81
  go_wp2_with (refine (hasF_byte 99 #[.pointer (some ⟨w.heap.size, 0, none⟩)] (enters_ Try.func99 (by kernel_rfl) rfl) (fun x => !p x) A0 c0 l0 _ HR0.out HC0.out HP.out).mono ?_; rintro e w' ⟨rfl, hb⟩)
  go_ret
  refine ⟨?_, below_then HBA.out HBA.out.size hb⟩
  show Ending.returned (.bool (!decide (0 ≤ idxI (fun x => !p x) l0))) = _
  rw [HN.out]
end Go.Proofs.Ytblejbgkcgajgaa.Q
end

section
namespace Go.Proofs.Ytblejbgkcgajgaa.Q
open Go.RowKit Go.Proofs.YtblejbgkcgajgaaW.PrintWords Go.Proofs.YtblejbgkcgajgaaW.PrintLast Go.Proofs.YtblejbgkcgajgaaW.PrintMore
attribute [local go_sem] max2_int min2_int max_two min_two max_three min_three max_four min_four   -- for this text's walks alone
set_option linter.unusedVariables false
set_option linter.unusedSimpArgs false
attribute [local go_sem] bin_leq bin_gtr bin_geq
def impl_NameOK.f (a0 : ByteArray) : Option (Bool) := some (nameB a0)
theorem nameOK_asks (l : List Int) (w : World) : Asks_byte 82 #[] (fun c => letB c || digB c) w l := by
  intro W x hW hx
  have A1 := Aside0.mk (impl_isLetter.calls x (letB x))
  have A2 := Aside0.mk (impl_isDigit.calls x (digB x))
  have F1 := Aside0.mk (letB_f x)
  have F2 := Aside0.mk (digB_f x)
  cases h1 : letB x with
  | true =>
    rw [h1] at A1 F1
    clear A2
    go_enter Try.func82, Try.ntmps82
    go_wp2_with (refine (A1.out _ F1.out).mono ?_; rintro e w' ⟨rfl, ⟨n, rfl⟩⟩)
    go_ret
    exact ⟨by first | rfl | simp [h1], pw_below_drewN (Below.refl _ _) _⟩
  | false =>
    rw [h1] at A1 F1
    go_enter Try.func82, Try.ntmps82
    go_wp2_with (first | (go_at_call 80; refine (A1.out _ F1.out).mono ?_; rintro e w' ⟨rfl, ⟨n, rfl⟩⟩) | (go_at_call 83; refine (A2.out _ F2.out).mono ?_; rintro e w' ⟨rfl, ⟨n, rfl⟩⟩))
    go_ret
    exact ⟨by first | rfl | simp [h1], by repeat (first | exact Below.refl _ _ | apply pw_below_drewN)⟩
set_option maxHeartbeats 4000000 in
set_option maxRecDepth 100000 in
theorem impl_NameOK.calls (a0 : ByteArray) (r : Bool) (w : World) (h : impl_NameOK.f a0 = some r) :
    Calls Try.prog 65 #[.string a0] w fun e w' => e = .returned (.bool r) ∧ Below w.heap.size w w' := by
  obtain rfl := Option.some.inj h
  clear h
  by_cases h1 : 1 ≤ a0.size ∧ a0.size ≤ 12
  · have F1 := Aside0.mk (show impl_within.f (a0.size : Int) 1 12 = some true by unfold impl_within.f; rw [if_pos (by omega), decide_eq_true (by omega)])
    have F2 := Aside0.mk (letB_f (bt a0 0))
    have i0 : (0 : Int) < (a0.size : Int) := by omega
    have hbt : ∀ h : 0 < a0.size, ((a0[0]'h).toNat : Int) = bt a0 0 := bt_at a0 0
    have j0 : 0 < a0.size := by omega
    cases h2 : letB (bt a0 0) with
    | true =>
      rw [h2] at F2
      have hcv := fun w => Go.Lib.run_convert_string_bytes (P := Try.prog) w 9 80 5 a0 Try.underlying9 Try.underlying80 Try.underlying5
      have R1 := Aside0.mk (show nameB a0 = (bytesL a0).all (fun c => letB c || digB c) by simp [nameB, h1.1, h1.2, h2])
      have hsz : a0.size ≤ 9223372036854775807 := by omega
      have hn := Aside0.mk h1
      clear h1
      go_enter Try.func65, Try.ntmps65
      go_wp2_with fail
      refine (impl_within.calls (a0.size : Int) 1 12 true _ F1.out).mono ?_
      rintro e w' ⟨rfl, ⟨nd, rfl⟩⟩
      go_wp2_with fail

      refine (impl_isLetter.calls (bt a0 0) true _ F2.out).mono ?_
      rintro e w' ⟨rfl, ⟨nd2, rfl⟩⟩
      go_wp2_with fail
      have HBx := below_bytes (w.drewN (nd + nd2)) a0 5
      have HBy : Below w.heap.size w (Go.Lib.bytesWorld (w.drewN (nd + nd2)) 5 a0) := below_then (pw_below_drewN (Below.refl _ _) _) (Nat.le_refl _) HBx
      have hA := allF_byte 82 #[] (enters_ Try.func82 (by kernel_rfl) rfl) (fun c => letB c || digB c) _ (grownCap (w.drewN (nd + nd2)) a0.size 0 5) (bytesL a0) (Go.Lib.bytesWorld (w.drewN (nd + nd2)) 5 a0) (bytesL_cells (w.drewN (nd + nd2)) a0 hsz) (by rw [bytesL_length]; exact grownCap_ge _ _ _ _) (nameOK_asks _ _)
      rw [bytesL_length] at hA
      refine hA.mono ?_
      rintro e w' ⟨rfl, hb⟩
      have hb2 := Aside0.mk (below_then HBy HBy.size hb)
      clear hb HBx HBy hA
      go_wp2
      go_ret
      exact ⟨by rw [R1.out]; rfl, hb2.out⟩
    | false =>
      rw [h2] at F2
      have R1 := Aside0.mk (show nameB a0 = false by simp [nameB, h2])
      have hn := Aside0.mk h1
      clear h1
      go_enter Try.func65, Try.ntmps65
      go_wp2_with fail
      refine (impl_within.calls (a0.size : Int) 1 12 true _ F1.out).mono ?_
      rintro e w' ⟨rfl, ⟨nd, rfl⟩⟩
      go_wp2_with fail
      refine (impl_isLetter.calls (bt a0 0) false _ F2.out).mono ?_
      rintro e w' ⟨rfl, ⟨nd2, rfl⟩⟩
      go_wp2
      go_ret
      exact ⟨by rw [R1.out]; rfl, by repeat (first | exact Below.refl _ _ | apply pw_below_drewN)⟩
  · have F1 := Aside0.mk (show impl_within.f (a0.size : Int) 1 12 = some false by
      unfold impl_within.f
      by_cases h3 : 1 ≤ (a0.size : Int)
      · rw [if_pos h3, decide_eq_false (by omega)]
      · rw [if_neg h3])
    have R1 := Aside0.mk (show nameB a0 = false by
      unfold nameB
      by_cases h3 : 1 ≤ a0.size
      · have h4 : ¬ a0.size ≤ 12 := by omega
        simp [h4]
      · simp [h3])
    clear h1
    go_enter Try.func65, Try.ntmps65
    go_wp2_with fail
    refine (impl_within.calls (a0.size : Int) 1 12 false _ F1.out).mono ?_
    rintro e w' ⟨rfl, ⟨nd, rfl⟩⟩
    go_wp2
    go_ret
    exact ⟨by rw [R1.out]; rfl, by repeat (first | exact Below.refl _ _ | apply pw_below_drewN)⟩
end Go.Proofs.Ytblejbgkcgajgaa.Q
end

section
namespace Go.Proofs.Ytblejbgkcgajgaa.Q
open Go.RowKit Go.Proofs.YtblejbgkcgajgaaW.PrintWords Go.Proofs.YtblejbgkcgajgaaW.PrintLast Go.Proofs.YtblejbgkcgajgaaW.PrintMore
attribute [local go_sem] max2_int min2_int max_two min_two max_three min_three max_four min_four   -- for this text's walks alone
set_option linter.unusedVariables false
set_option linter.unusedSimpArgs false
attribute [local go_sem] bin_leq bin_gtr bin_geq
def impl_isValue.f (a0 : Int) : Option (Bool) := (impl_within.f a0 (-1000000) 1000000).bind fun t161 => (some t161)
set_option maxHeartbeats 8000000 in
set_option maxRecDepth 100000 in
theorem impl_isValue.calls (a0 : Int) (r : Bool) (w : World) (h : impl_isValue.f a0 = some r) :
    Calls Try.prog 66 #[.int .i64 a0] w fun e w' => e = .returned (.bool r) ∧ Drawn0 w w' := by
  have H : ((impl_within.f a0 (-1000000) 1000000).bind fun t161 => (some t161)) = some r := h
  clear h
  replace H := Option.bind_eq_some_iff.mp H
  obtain ⟨t161, A20, H⟩ := H
  replace H : (some t161) = some r := H
  have A2 := Aside0.mk A20
  clear A20
  obtain rfl := Option.some.inj H
  go_enter Try.func66, Try.ntmps66
  go_wp2_with (first | ((with_reducible refine gate_callee (f := 79) rfl ?_); refine goesL_ (some 4) rfl rfl Try.func79 (by kernel_rfl) rfl #[.int .i64 a0, .int .i64 (-1000000), .int .i64 1000000] rfl gA ?_; (with_reducible refine (impl_within.calls a0 (-1000000) 1000000 t161 _ A2.out).mono ?_); rintro e w' ⟨rfl, ⟨nd, rfl⟩⟩; refine ⟨_, rfl, ?_⟩))
  go_ret
  exact ⟨by first | rfl | (simp; done) | (simp [*]; done), by repeat (first | exact Drawn0.refl _ | apply Drawn0.step)⟩
end Go.Proofs.Ytblejbgkcgajgaa.Q
end

section
namespace Go.Proofs.Ytblejbgkcgajgaa.Q
open Go.RowKit Go.Proofs.YtblejbgkcgajgaaW.PrintWords Go.Proofs.YtblejbgkcgajgaaW.PrintLast Go.Proofs.YtblejbgkcgajgaaW.PrintMore
attribute [local go_sem] max2_int min2_int max_two min_two max_three min_three max_four min_four   -- for this text's walks alone
set_option linter.unusedVariables false
set_option linter.unusedSimpArgs false
attribute [local go_sem] bin_leq bin_gtr bin_geq
abbrev impl_MapOK.m0 : Array Bool := #[false, false, false, false, false, false, false, false, false, false, false, false, false, false, false, false, false, false, false, false, false, false, false, false, false]
abbrev impl_MapOK.m1 : Array Bool := #[true, false, false, false, false, false, false, false, false, false, false, false, false, false, false, false, false, false, false, false, false, false, false, false, false]
abbrev impl_MapOK.m2 : Array Bool := #[true, true, false, false, false, false, false, false, false, false, false, false, false, false, false, false, false, false, false, false, false, false, false, false, false]
abbrev impl_MapOK.m3 : Array Bool := #[true, true, true, false, false, false, false, false, false, false, false, false, false, false, false, false, false, false, false, false, false, false, false, false, false]
abbrev impl_MapOK.m4 : Array Bool := #[true, true, true, true, false, false, false, false, false, false, false, false, false, false, false, false, false, false, false, false, false, false, false, false, false]
abbrev impl_MapOK.m5 : Array Bool := #[true, true, true, true, true, false, false, false, false, false, false, false, false, false, false, false, false, false, false, false, false, false, false, false, false]
abbrev impl_MapOK.m6 : Array Bool := #[true, true, true, true, true, true, false, false, false, false, false, false, false, false, false, false, false, false, false, false, false, false, false, false, false]
abbrev impl_MapOK.m7 : Array Bool := #[true, true, true, true, true, true, true, false, false, false, false, false, false, false, false, false, false, false, false, false, false, false, false, false, false]
abbrev impl_MapOK.m8 : Array Bool := #[true, true, true, true, true, true, true, true, false, false, false, false, false, false, false, false, false, false, false, false, false, false, false, false, false]
abbrev impl_MapOK.m9 : Array Bool := #[true, true, true, true, true, true, true, true, true, false, false, false, false, false, false, false, false, false, false, false, false, false, false, false, false]
abbrev impl_MapOK.m10 : Array Bool := #[true, true, true, true, true, true, true, true, true, true, false, false, false, false, false, false, false, false, false, false, false, false, false, false, false]
abbrev impl_MapOK.m11 : Array Bool := #[true, true, true, true, true, true, true, true, true, true, true, false, false, false, false, false, false, false, false, false, false, false, false, false, false]
abbrev impl_MapOK.m12 : Array Bool := #[true, true, true, true, true, true, true, true, true, true, true, true, false, false, false, false, false, false, false, false, false, false, false, false, false]
abbrev impl_MapOK.m13 : Array Bool := #[true, true, true, true, true, true, true, true, true, true, true, true, true, false, false, false, false, false, false, false, false, false, false, false, false]
abbrev impl_MapOK.m14 : Array Bool := #[true, true, true, true, true, true, true, true, true, true, true, true, true, true, false, false, false, false, false, false, false, false, false, false, false]
abbrev impl_MapOK.m15 : Array Bool := #[true, true, true, true, true, true, true, true, true, true, true, true, true, true, true, false, false, false, false, false, false, false, false, false, false]
abbrev impl_MapOK.m16 : Array Bool := #[true, true, true, true, true, true, true, true, true, true, true, true, true, true, true, true, false, false, false, false, false, false, false, false, false]
abbrev impl_MapOK.m17 : Array Bool := #[true, true, true, true, true, true, true, true, true, true, true, true, true, true, true, true, true, false, false, false, false, false, false, false, false]
abbrev impl_MapOK.m18 : Array Bool := #[true, true, true, true, true, true, true, true, true, true, true, true, true, true, true, true, true, true, false, false, false, false, false, false, false]
abbrev impl_MapOK.m19 : Array Bool := #[true, true, true, true, true, true, true, true, true, true, true, true, true, true, true, true, true, true, true, false, false, false, false, false, false]
abbrev impl_MapOK.m20 : Array Bool := #[true, true, true, true, true, true, true, true, true, true, true, true, true, true, true, true, true, true, true, false, true, false, false, false, false]
abbrev impl_MapOK.m21 : Array Bool := #[true, true, true, true, true, true, true, true, true, true, true, true, true, true, true, true, true, true, true, true, true, false, false, false, false]
abbrev impl_MapOK.m22 : Array Bool := #[true, true, true, true, true, true, true, true, true, true, true, true, true, true, true, true, true, true, true, true, true, true, false, false, false]
abbrev impl_MapOK.m23 : Array Bool := #[true, true, true, true, true, true, true, true, true, true, true, true, true, true, true, true, true, true, true, true, true, true, true, false, false]
abbrev impl_MapOK.m24 : Array Bool := #[true, true, true, true, true, true, true, true, true, true, true, true, true, true, true, true, true, true, true, true, true, true, true, true, false]
abbrev impl_MapOK.m25 : Array Bool := #[true, true, true, true, true, true, true, true, true, true, true, true, true, true, true, true, true, true, true, true, true, true, true, true, true]
abbrev impl_MapOK.m26 : Array Bool := #[true, true, true, true, true, true, true, true, true, true, true, true, true, true, true, true, true, true, true, true, false, false, false, false, false]
def impl_MapOK.l0 : Nat → List (S55) → List (S55) → Int → Int → Option (Bool)
  | 0, _, _, _, _ => none
  | k + 1, x0, x5, x6, x7 => if x7 < x6 then (if 0 ≤ x7 then (if x7 < (x5.length : Int) then ((impl_NameOK.f ((rd_T55 x5 x7).f0)).bind fun t164 => (if t164 = true then ((impl_isValue.f ((rd_T55 x5 x7).f1)).bind fun t165 => (if t165 = true then (if x7 > 0 then (if 0 ≤ (wrap64 (x7 - 1)) then (if (wrap64 (x7 - 1)) < (x0.length : Int) then (if ((Op.bytesLess (((rd_T55 x0 (wrap64 (x7 - 1))).f0).toList) (((rd_T55 x5 x7).f0).toList)) = true) then (impl_MapOK.l0 k x0 x5 x6 (wrap64 (x7 + 1))) else (some false)) else (none)) else (none)) else (impl_MapOK.l0 k x0 x5 x6 (wrap64 (x7 + 1)))) else (some false))) else (some false))) else (none)) else (none)) else (some (decide ((x0.length : Int) ≤ 12)))
def impl_MapOK.f (k : Nat) (l0 : List (S55)) : Option (Bool) := impl_MapOK.l0 k l0 l0 (l0.length : Int) 0
def impl_MapOK.T4 : Bool × List (List Nat × List Nat) := (true, [([], []), ([0], [0]), ([1], [1]), ([2], [2]), ([3, 2], [3]), ([4], [4]), ([5, 4], [4, 5]), ([6, 4, 4], [4, 6]), ([7, 4], [4, 7]), ([4, 8], [4, 8]), ([9, 7], [9]), ([10], [10]), ([11, 10], [10, 11]), ([12, 10, 10], [10, 12]), ([13], [13]), ([13], [13]), ([15, 13], [13, 15]), ([14, 16, 13], [13, 14, 16]), ([17, 13], [13, 17]), ([18, 13], [13, 18]), ([13], [13]), ([20, 13], [13, 20]), ([19, 21, 13], [13, 19, 21]), ([13, 22, 10], [10, 13, 22]), ([10, 23], [10, 23])])
def impl_MapOK.B4 : List Nat := [0, 1, 3, 7, 15, 31, 63, 127, 255, 511, 1023, 2047, 4095, 8191, 16383, 16383, 49151, 131071, 262143, 524287, 16383, 1064959, 4194303, 8388607, 16777215]
theorem impl_MapOK.tab4 : rtab .any (opsOf Try.f51 4) = impl_MapOK.T4 := by kernel_rfl
theorem impl_MapOK.bits4 : waitsOk impl_MapOK.T4.2 impl_MapOK.B4 = true := by kernel_rfl
set_option maxHeartbeats 8000000 in
set_option maxRecDepth 100000 in
theorem impl_MapOK.calls (k : Nat) (A0 : Option Addr) (c0 : Nat) (l0 : List (S55)) (r : Bool) (w : World) (hr0 : Kd.C k55 w A0 l0.length l0) (hc0 : l0.length ≤ c0) (h : impl_MapOK.f k l0 = some r) :
    Calls Try.prog 51 #[.slice A0 l0.length c0] w fun e w' => e = .returned (.bool r) ∧ Below w.heap.size w w' := by
  have hu55 := Try.underlying55
  have HR0 := Aside0.mk hr0
  have HC0 := Aside0.mk hc0
  clear hr0 hc0
  have HB := Aside0.mk (Below.refl w.heap.size w)
  have H : (impl_MapOK.l0 k l0 l0 (l0.length : Int) 0) = some r := h
  clear h
  have H' := Aside0.mk H
  clear H
  go_enter Try.func51, Try.ntmps51
  go_wp2
  go_loopg [7] k (fun kq v7 w' => ∃ (x7_1 : Int), v7 = .int .i64 x7_1 ∧ Aside0 (impl_MapOK.l0 kq l0 l0 (l0.length : Int) x7_1 = some r) ∧ Aside0 (kq ≤ k) ∧ Aside0 (Below w.heap.size w w'))
  case atStart => exact ⟨(0), vE, H', ⟨Nat.le_refl _⟩, ⟨bW⟩⟩
  case round =>
    clear H'
    obtain ⟨x7_1, rfl, HA, HK1, HB⟩ := hrel
    cases gk with
    | zero => exact absurd HA.out (by simp [impl_MapOK.l0])
    | succ k1 =>
      have H := HA.out
      clear HA
      simp only [impl_MapOK.l0] at H
      by_cases c2 : x7_1 < (l0.length : Int)
      · rw [if_pos c2] at H
        have c2b0 : decide (x7_1 < (l0.length : Int)) = true := decide_eq_true c2
        clear c2
        by_cases c3 : 0 ≤ x7_1
        · rw [if_pos c3] at H
          have c3b0 : decide (0 ≤ x7_1) = true := decide_eq_true c3
          clear c3
          by_cases c4 : x7_1 < (l0.length : Int)
          · rw [if_pos c4] at H
            have c4b0 : decide (x7_1 < (l0.length : Int)) = true := decide_eq_true c4
            clear c4
            replace H := Option.bind_eq_some_iff.mp H
            obtain ⟨t164, A50, H⟩ := H
            replace H : (if t164 = true then ((impl_isValue.f ((rd_T55 l0 x7_1).f1)).bind fun t165 => (if t165 = true then (if x7_1 > 0 then (if 0 ≤ (wrap64 (x7_1 - 1)) then (if (wrap64 (x7_1 - 1)) < (l0.length : Int) then (if ((Op.bytesLess (((rd_T55 l0 (wrap64 (x7_1 - 1))).f0).toList) (((rd_T55 l0 x7_1).f0).toList)) = true) then (impl_MapOK.l0 k1 l0 l0 (l0.length : Int) (wrap64 (x7_1 + 1))) else (some false)) else (none)) else (none)) else (impl_MapOK.l0 k1 l0 l0 (l0.length : Int) (wrap64 (x7_1 + 1)))) else (some false))) else (some false)) = some r := H
            have A5 := Aside0.mk A50
            clear A50
            by_cases c6 : t164 = true
            · subst c6
              have H1 : ((impl_isValue.f ((rd_T55 l0 x7_1).f1)).bind fun t165 => (if t165 = true then (if x7_1 > 0 then (if 0 ≤ (wrap64 (x7_1 - 1)) then (if (wrap64 (x7_1 - 1)) < (l0.length : Int) then (if ((Op.bytesLess (((rd_T55 l0 (wrap64 (x7_1 - 1))).f0).toList) (((rd_T55 l0 x7_1).f0).toList)) = true) then (impl_MapOK.l0 k1 l0 l0 (l0.length : Int) (wrap64 (x7_1 + 1))) else (some false)) else (none)) else (none)) else (impl_MapOK.l0 k1 l0 l0 (l0.length : Int) (wrap64 (x7_1 + 1)))) else (some false))) = some r := by rw [if_pos rfl] at H; exact H
              clear H
              have H := H1
              clear H1
              replace H := Option.bind_eq_some_iff.mp H
              obtain ⟨t165, A70, H⟩ := H
              replace H : (if t165 = true then (if x7_1 > 0 then (if 0 ≤ (wrap64 (x7_1 - 1)) then (if (wrap64 (x7_1 - 1)) < (l0.length : Int) then (if ((Op.bytesLess (((rd_T55 l0 (wrap64 (x7_1 - 1))).f0).toList) (((rd_T55 l0 x7_1).f0).toList)) = true) then (impl_MapOK.l0 k1 l0 l0 (l0.length : Int) (wrap64 (x7_1 + 1))) else (some false)) else (none)) else (none)) else (impl_MapOK.l0 k1 l0 l0 (l0.length : Int) (wrap64 (x7_1 + 1)))) else (some false)) = some r := H
              have A7 := Aside0.mk A70
              clear A70
              by_cases c8 : t165 = true
              · subst c8
                have H1 : (if x7_1 > 0 then (if 0 ≤ (wrap64 (x7_1 - 1)) then (if (wrap64 (x7_1 - 1)) < (l0.length : Int) then (if ((Op.bytesLess (((rd_T55 l0 (wrap64 (x7_1 - 1))).f0).toList) (((rd_T55 l0 x7_1).f0).toList)) = true) then (impl_MapOK.l0 k1 l0 l0 (l0.length : Int) (wrap64 (x7_1 + 1))) else (some false)) else (none)) else (none)) else (impl_MapOK.l0 k1 l0 l0 (l0.length : Int) (wrap64 (x7_1 + 1)))) = some r := by rw [if_pos rfl] at H; exact H
                clear H
                have H := H1
                clear H1
                by_cases c9 : x7_1 > 0
                · rw [if_pos c9] at H
                  have c9b0 : decide (0 < x7_1) = true := decide_eq_true c9
                  clear c9
                  obtain ⟨ji10, hji10⟩ : ∃ j_ : Int, (wrap64 (x7_1 - 1)) = j_ := ⟨_, rfl⟩
                  replace H : (if 0 ≤ (ji10) then (if (ji10) < (l0.length : Int) then (if ((Op.bytesLess (((rd_T55 l0 (ji10)).f0).toList) (((rd_T55 l0 x7_1).f0).toList)) = true) then (impl_MapOK.l0 k1 l0 l0 (l0.length : Int) (wrap64 (x7_1 + 1))) else (some false)) else (none)) else (none)) = some r := by first | (rw [hji10] at H; exact H) | (simp only [hji10] at H ⊢; exact H)
                  (try rw [hji10] at A5)
                  (try rw [hji10] at A7)
                  have hji10w : (IntKind.i64.wrap (x7_1 - 1)) = ji10 := (i64_w _).trans hji10
                  by_cases c11 : 0 ≤ (ji10)
                  · rw [if_pos c11] at H
                    have c11b0 : decide (0 ≤ (ji10)) = true := decide_eq_true c11
                    clear c11
                    by_cases c12 : (ji10) < (l0.length : Int)
                    · rw [if_pos c12] at H
                      have c12b0 : decide ((ji10) < (l0.length : Int)) = true := decide_eq_true c12
                      clear c12
                      by_cases c13 : ((Op.bytesLess (((rd_T55 l0 (ji10)).f0).toList) (((rd_T55 l0 x7_1).f0).toList)) = true)
                      · rw [if_pos c13] at H
                        have c13b0 : (Op.bytesLess (((rd_T55 l0 (ji10)).f0).toList) (((rd_T55 l0 x7_1).f0).toList)) = true := c13
                        clear c13
                        have H' := Aside0.mk H
                        clear H
                        have p162 : 0 ≤ (x7_1 : Int) := odt
                        have q162 : x7_1 < (l0.length : Int) := odt
                        obtain ⟨ad162, e162, hx162_0, hx162_1⟩ := at_T55 HR0.out x7_1 p162 q162
                        cases e162
                        replace hx162_0 := (HB.out.cell (World.block_lt_of_cell? w _ hx162_0)).trans hx162_0
                        replace hx162_1 := (HB.out.cell (World.block_lt_of_cell? w _ hx162_1)).trans hx162_1
                        replace p162 := eq_true p162
                        replace q162 := eq_true q162
                        try go_wp2_with (first | ((with_reducible refine gate_dst (N := 4) rfl ?_); refine bE (N := 4) (cs := #[.string (⟨#[]⟩ : ByteArray), .int .i64 0]) (t := 55) ?_; intro gb163 hg w14 hbox hb; have n0_ := Aside0.mk (below_step (w := w) bW hb); have n1_ := Aside0.mk (hbox); have n2_ := Aside0.mk (gS (w := w) hg); have n3_ := n2_; clear HB; have HB := n0_; have BK163 := n1_; have GW163 := n2_; have GE163 := n3_; clear n0_ n1_ n2_ n3_; clear hb hbox hg; obtain ⟨hcz15_0, hcz15_1⟩ := cz2 BK163; obtain ⟨hfz15_0, hfz15_1⟩ := fz2 BK163))
                        have n0_ : Aside0 (((w14.setCell ⟨gb163, 0, none⟩ (.string ((rd_T55 l0 x7_1).f0))).setCell ⟨gb163, 1, none⟩ (.int .i64 ((rd_T55 l0 x7_1).f1))).heap[gb163]? = some (.cells #[.string ((rd_T55 l0 x7_1).f0), .int .i64 ((rd_T55 l0 x7_1).f1)] 55 (0, 0))) := ⟨by (with_reducible repeat (first | refine blk_drewN ?_ _ | refine blk_drew ?_ | refine blk_alloc ?_ _)); refine blk_put (cs := #[.string ((rd_T55 l0 x7_1).f0), .int .i64 0]) ?_ 1 _ rfl; (with_reducible repeat (first | refine blk_drewN ?_ _ | refine blk_drew ?_ | refine blk_alloc ?_ _)); refine blk_put (cs := #[.string (⟨#[]⟩ : ByteArray), .int .i64 0]) ?_ 0 _ rfl; (with_reducible repeat (first | refine blk_drewN ?_ _ | refine blk_drew ?_ | refine blk_alloc ?_ _)); exact BK163.out⟩
                        have n1_ : Aside0 (Below w.heap.size w ((w14.setCell ⟨gb163, 0, none⟩ (.string ((rd_T55 l0 x7_1).f0))).setCell ⟨gb163, 1, none⟩ (.int .i64 ((rd_T55 l0 x7_1).f1)))) := ⟨bW⟩
                        (try clear BK163)
                        (try clear HB)
                        generalize ((w14.setCell ⟨gb163, 0, none⟩ (.string ((rd_T55 l0 x7_1).f0))).setCell ⟨gb163, 1, none⟩ (.int .i64 ((rd_T55 l0 x7_1).f1))) = w16 at n0_ n1_ ⊢
                        have BK163 := n0_
                        have HB := n1_
                        clear n0_ n1_
                        have n0_ := Aside0.mk (blk_drew BK163.out)
                        have n1_ := Aside0.mk (below_drew1 HB.out)
                        clear BK163
                        clear HB
                        have BK163 := n0_
                        have HB := n1_
                        clear n0_ n1_
                        have p166 : 0 ≤ ((ji10) : Int) := odt
                        have q166 : (ji10) < (l0.length : Int) := odt
                        obtain ⟨ad166, e166, hx166_0, hx166_1⟩ := at_T55 HR0.out (ji10) p166 q166
                        have hw166_1 := hx166_1
                        have hw166_0 := hx166_0
                        obtain rfl : ad162 = ad166 := (by injection e166)
                        replace hx166_0 := (HB.out.cell (World.block_lt_of_cell? w _ hx166_0)).trans hx166_0
                        replace hx166_1 := (HB.out.cell (World.block_lt_of_cell? w _ hx166_1)).trans hx166_1
                        replace p166 := eq_true p166
                        replace q166 := eq_true q166
                        refine start_ (n := 25) (S := fun w' => w'.cell? ⟨gb163, 0, none⟩ = some (.string ((rd_T55 l0 x7_1).f0)) ∧ w'.cell? ⟨gb163, 1, none⟩ = some (.int .i64 ((rd_T55 l0 x7_1).f1)) ∧ w'.cell? (ad162.add (((ji10)).toNat * 2)) = some (.string ((rd_T55 l0 (ji10)).f0)) ∧ w'.cell? ⟨(ad162.add (((ji10)).toNat * 2)).block, (ad162.add (((ji10)).toNat * 2)).off + 1, none⟩ = some (.int .i64 ((rd_T55 l0 (ji10)).f1))) (ds := []) impl_MapOK.m0 (by kernel_rfl) rfl rfl ⟨(blk_cell BK163.out 0).trans rfl, (blk_cell BK163.out 1).trans rfl, ((HB.out.cell (World.block_lt_of_cell? w _ hw166_0)).trans hw166_0), ((HB.out.cell (World.block_lt_of_cell? w _ hw166_1)).trans hw166_1)⟩ (fun hHeld => ?_); refine with_tabW impl_MapOK.tab4 impl_MapOK.bits4 (fun HT_ HW_ => ?_)
                        generalize w16.drew = w17 at BK163 HB hx166_0 hx166_1 hHeld ⊢
                        refine pure_ (i := 0) (N := some 12) (v := ?_) (a' := ?_) impl_MapOK.m1 rfl rfl (any_of HT_.out (by kernel_rfl)) (fun _ _ _ h => h) (Or.inl ⟨by rfl, ?_⟩) ?_ ?_; rotate_left; (focus intro w'; go_simp; with_reducible rfl); rotate_left; (focus simp only [pt, i64_w, i32_w]; rfl)
                        refine take_ (i := 1) (N := some 13) (v := ?_) (a' := ?_) impl_MapOK.m2 rfl rfl (take_ofW HT_.out HW_.out (by kernel_rfl)) (fun _ _ _ h => h) (Or.inl ⟨by rfl, ?_⟩) hHeld ?_ ?_; rotate_left; (focus rintro w' ⟨s0, s1, s2, s3⟩; go_simp; with_reducible rfl); rotate_left; (focus simp only [pt, i64_w, i32_w]; rfl)
                        refine one_ (i := 2) (N := some 14) impl_MapOK.m3 rfl rfl (one_of HT_.out (by kernel_rfl)) (by decide) (fun K hK => ?_)
                        refine goes_ Try.func65 (by kernel_rfl) rfl #[.string ((rd_T55 l0 x7_1).f0)] (by rfl) rfl rfl gA ?_
                        with_reducible refine (impl_NameOK.calls ((rd_T55 l0 x7_1).f0) true _ A5.out).mono ?_
                        rintro e w18 ⟨rfl, hb⟩
                        refine ⟨_, rfl, ?_⟩
                        have n0_ := Aside0.mk (kb BK163 hb)
                        have n1_ := Aside0.mk (below_step (w := w) bW hb)
                        clear BK163
                        clear HB
                        have BK163 := n0_
                        have HB := n1_
                        clear n0_ n1_
                        (try clear hb)
                        (try clear hb2)
                        (try clear hk)
                        (try clear hi)
                        refine hK.out _ _ ⟨(blk_cell BK163.out 0).trans rfl, (blk_cell BK163.out 1).trans rfl, ((HB.out.cell (World.block_lt_of_cell? w _ hw166_0)).trans hw166_0), ((HB.out.cell (World.block_lt_of_cell? w _ hw166_1)).trans hw166_1)⟩ (fun hHeld => ?_)
                        clear hK K
                        refine norm_ (a' := ?_) ?_ ?_
                        rotate_left
                        · show Act.put _ (some 14) _ = _
                          simp only [Act.put, List.setIfInBounds_toArray, List.set_cons_zero, List.set_cons_succ, i64_w, i32_w]
                          rfl
                        refine pure_ (i := 3) (N := some 15) (v := ?_) (a' := ?_) impl_MapOK.m4 rfl rfl (any_of HT_.out (by kernel_rfl)) (fun _ _ _ h => h) (Or.inl ⟨by rfl, ?_⟩) ?_ ?_; rotate_left; (focus intro w'; go_simp; with_reducible rfl); rotate_left; (focus simp only [pt, i64_w, i32_w]; rfl)
                        refine pure_ (i := 4) (N := some 16) (v := ?_) (a' := ?_) impl_MapOK.m5 rfl rfl (any_of HT_.out (by kernel_rfl)) (fun _ _ _ h => h) (Or.inl ⟨by rfl, ?_⟩) ?_ ?_; rotate_left; (focus intro w'; go_simp; with_reducible rfl); rotate_left; (focus simp only [pt, i64_w, i32_w]; rfl)
                        refine pure_ (i := 5) (N := some 17) (v := ?_) (a' := ?_) impl_MapOK.m6 rfl rfl (any_of HT_.out (by kernel_rfl)) (fun _ _ _ h => h) (Or.inl ⟨by rfl, ?_⟩) ?_ ?_; rotate_left; (focus intro w'; go_simp; with_reducible rfl); rotate_left; (focus simp only [pt, i64_w, i32_w]; rfl)
                        refine take_ (i := 6) (N := some 18) (v := ?_) (a' := ?_) impl_MapOK.m7 rfl rfl (take_ofW HT_.out HW_.out (by kernel_rfl)) (fun _ _ _ h => h) (Or.inl ⟨by rfl, ?_⟩) hHeld ?_ ?_; rotate_left; (focus rintro w' ⟨s0, s1, s2, s3⟩; go_simp; with_reducible rfl); rotate_left; (focus simp only [pt, i64_w, i32_w]; rfl)
                        refine one_ (i := 7) (N := some 19) impl_MapOK.m8 rfl rfl (one_of HT_.out (by kernel_rfl)) (by decide) (fun K hK => ?_)
                        refine goes_ Try.func66 (by kernel_rfl) rfl #[.int .i64 ((rd_T55 l0 x7_1).f1)] (by rfl) rfl rfl gA ?_
                        with_reducible refine (impl_isValue.calls ((rd_T55 l0 x7_1).f1) true _ A7.out).mono ?_
                        rintro e w' ⟨rfl, ⟨nd, rfl⟩⟩
                        refine ⟨_, rfl, ?_⟩
                        refine hK.out _ _ ⟨(blk_cell BK163.out 0).trans rfl, (blk_cell BK163.out 1).trans rfl, ((HB.out.cell (World.block_lt_of_cell? w _ hw166_0)).trans hw166_0), ((HB.out.cell (World.block_lt_of_cell? w _ hw166_1)).trans hw166_1)⟩ (fun hHeld => ?_)
                        clear hK K
                        refine norm_ (a' := ?_) ?_ ?_
                        rotate_left
                        · show Act.put _ (some 19) _ = _
                          simp only [Act.put, List.setIfInBounds_toArray, List.set_cons_zero, List.set_cons_succ, i64_w, i32_w]
                          rfl
                        refine pure_ (i := 8) (N := some 20) (v := ?_) (a' := ?_) impl_MapOK.m9 rfl rfl (any_of HT_.out (by kernel_rfl)) (fun _ _ _ h => h) (Or.inl ⟨by rfl, ?_⟩) ?_ ?_; rotate_left; (focus intro w'; go_simp; with_reducible rfl); rotate_left; (focus simp only [pt, i64_w, i32_w]; rfl)
                        refine pure_ (i := 9) (N := some 21) (v := ?_) (a' := ?_) impl_MapOK.m10 rfl rfl (any_of HT_.out (by kernel_rfl)) (fun _ _ _ h => h) (Or.inl ⟨by rfl, ?_⟩) ?_ ?_; rotate_left; (focus intro w'; go_simp; with_reducible rfl); rotate_left; (focus simp only [pt, i64_w, i32_w]; rfl)
                        refine pure_ (i := 10) (N := some 22) (v := ?_) (a' := ?_) impl_MapOK.m11 rfl rfl (any_of HT_.out (by kernel_rfl)) (fun _ _ _ h => h) (Or.inl ⟨by rfl, ?_⟩) ?_ ?_; rotate_left; (focus intro w'; go_simp; with_reducible rfl); rotate_left; (focus simp only [pt, i64_w, i32_w]; rfl)
                        refine pure_ (i := 11) (N := some 23) (v := ?_) (a' := ?_) impl_MapOK.m12 rfl rfl (any_of HT_.out (by kernel_rfl)) (fun _ _ _ h => h) (Or.inl ⟨by rfl, ?_⟩) ?_ ?_; rotate_left; (focus intro w'; go_simp; with_reducible rfl); rotate_left; (focus simp only [pt, i64_w, i32_w]; rfl)
                        refine pure_ (i := 12) (N := some 24) (v := ?_) (a' := ?_) impl_MapOK.m13 rfl rfl (any_of HT_.out (by kernel_rfl)) (fun _ _ _ h => h) (Or.inl ⟨by rfl, ?_⟩) ?_ ?_; rotate_left; (focus intro w'; go_simp; with_reducible rfl); rotate_left; (focus simp only [pt, i64_w, i32_w]; rfl)
                        refine pure_ (i := 13) (N := some 25) (v := ?_) (a' := ?_) impl_MapOK.m14 rfl rfl (any_of HT_.out (by kernel_rfl)) (fun _ _ _ h => h) (Or.inl ⟨by rfl, ?_⟩) ?_ ?_; rotate_left; (focus intro w'; go_simp; with_reducible rfl); rotate_left; (focus simp only [pt, i64_w, i32_w]; rfl)
                        refine pure_ (i := 14) (N := some 26) (v := ?_) (a' := ?_) impl_MapOK.m15 rfl rfl (any_of HT_.out (by kernel_rfl)) (fun _ _ _ h => h) (Or.inl ⟨by rfl, ?_⟩) ?_ ?_; rotate_left; (focus intro w'; go_simp; with_reducible rfl); rotate_left; (focus simp only [pt, i64_w, i32_w]; rfl)
                        refine pure_ (i := 15) (N := some 27) (v := ?_) (a' := ?_) impl_MapOK.m16 rfl rfl (any_of HT_.out (by kernel_rfl)) (fun _ _ _ h => h) (Or.inl ⟨by rfl, ?_⟩) ?_ ?_; rotate_left; (focus intro w'; go_simp; with_reducible rfl); rotate_left; (focus simp only [pt, i64_w, i32_w]; rfl)
                        refine pure_ (i := 16) (N := some 28) (v := ?_) (a' := ?_) impl_MapOK.m17 rfl rfl (any_of HT_.out (by kernel_rfl)) (fun _ _ _ h => h) (Or.inl ⟨by rfl, ?_⟩) ?_ ?_; rotate_left; (focus intro w'; go_simp; with_reducible rfl); rotate_left; (focus simp only [pt, i64_w, i32_w]; rfl)
                        refine pure_ (i := 17) (N := some 29) (v := ?_) (a' := ?_) impl_MapOK.m18 rfl rfl (any_of HT_.out (by kernel_rfl)) (fun _ _ _ h => h) (Or.inl ⟨by rfl, ?_⟩) ?_ ?_; rotate_left; (focus intro w'; go_simp; with_reducible rfl); rotate_left; (focus simp only [pt, i64_w, i32_w]; rfl)
                        refine pure_ (i := 18) (N := some 30) (v := ?_) (a' := ?_) impl_MapOK.m19 rfl rfl (any_of HT_.out (by kernel_rfl)) (fun _ _ _ h => h) (Or.inl ⟨by rfl, ?_⟩) ?_ ?_; rotate_left; (focus intro w'; go_simp; with_reducible rfl); rotate_left; (focus simp only [pt, i64_w, i32_w]; rfl)
                        refine pure_ (i := 20) (N := some 32) (v := ?_) (a' := ?_) impl_MapOK.m20 rfl rfl (any_of HT_.out (by kernel_rfl)) (fun _ _ _ h => h) (Or.inl ⟨by rfl, ?_⟩) ?_ ?_; rotate_left; (focus intro w'; go_simp; with_reducible rfl); rotate_left; (focus simp only [pt, i64_w, i32_w]; rfl)
                        refine take_ (i := 19) (N := some 31) (v := ?_) (a' := ?_) impl_MapOK.m21 rfl rfl (take_ofW HT_.out HW_.out (by kernel_rfl)) (fun _ _ _ h => h) (Or.inl ⟨by rfl, ?_⟩) hHeld ?_ ?_; rotate_left; (focus rintro w' ⟨s0, s1, s2, s3⟩; go_simp; with_reducible rfl); rotate_left; (focus simp only [pt, i64_w, i32_w]; rfl)
                        refine take_ (i := 21) (N := some 33) (v := ?_) (a' := ?_) impl_MapOK.m22 rfl rfl (take_ofW HT_.out HW_.out (by kernel_rfl)) (fun _ _ _ h => h) (Or.inl ⟨by rfl, ?_⟩) hHeld ?_ ?_; rotate_left; (focus rintro w' ⟨s0, s1, s2, s3⟩; go_simp; with_reducible rfl); rotate_left; (focus simp only [pt, i64_w, i32_w]; rfl)
                        refine pure_ (i := 22) (N := some 34) (v := ?_) (a' := ?_) impl_MapOK.m23 rfl rfl (any_of HT_.out (by kernel_rfl)) (fun _ _ _ h => h) (Or.inl ⟨by rfl, ?_⟩) ?_ ?_; rotate_left; (focus intro w'; go_simp; with_reducible rfl); rotate_left; (focus simp only [pt, i64_w, i32_w]; rfl)
                        refine pure_ (i := 23) (N := some 35) (v := ?_) (a' := ?_) impl_MapOK.m24 rfl rfl (any_of HT_.out (by kernel_rfl)) (fun _ _ _ h => h) (Or.inl ⟨by rfl, ?_⟩) ?_ ?_; rotate_left; (focus intro w'; go_simp; with_reducible rfl); rotate_left; (focus simp only [pt, i64_w, i32_w]; rfl)
                        refine pure_ (i := 24) (N := some 36) (v := ?_) (a' := ?_) impl_MapOK.m25 rfl rfl (any_of HT_.out (by kernel_rfl)) (fun _ _ _ h => h) (Or.inl ⟨by rfl, ?_⟩) ?_ ?_; rotate_left; (focus intro w'; go_simp; with_reducible rfl); rotate_left; (focus simp only [pt, i64_w, i32_w]; rfl)
                        refine done_ (done_of HT_.out (by kernel_rfl)) ?_
                        try go_wp2
                        go_roundg k1
                        case measure => have := HK1.out; omega
                        case rel => exact ⟨(wrap64 (x7_1 + 1)), vE, H', ⟨by have := HK1.out; omega⟩, ⟨bW⟩⟩
                      · rw [if_neg c13] at H
                        have c13b0 : (Op.bytesLess (((rd_T55 l0 (ji10)).f0).toList) (((rd_T55 l0 x7_1).f0).toList)) = false := by simpa using c13
                        clear c13
                        obtain rfl := Option.some.inj H
                        have p162 : 0 ≤ (x7_1 : Int) := odt
                        have q162 : x7_1 < (l0.length : Int) := odt
                        obtain ⟨ad162, e162, hx162_0, hx162_1⟩ := at_T55 HR0.out x7_1 p162 q162
                        cases e162
                        replace hx162_0 := (HB.out.cell (World.block_lt_of_cell? w _ hx162_0)).trans hx162_0
                        replace hx162_1 := (HB.out.cell (World.block_lt_of_cell? w _ hx162_1)).trans hx162_1
                        replace p162 := eq_true p162
                        replace q162 := eq_true q162
                        try go_wp2_with (first | ((with_reducible refine gate_dst (N := 4) rfl ?_); refine bE (N := 4) (cs := #[.string (⟨#[]⟩ : ByteArray), .int .i64 0]) (t := 55) ?_; intro gb163 hg w19 hbox hb; have n0_ := Aside0.mk (below_step (w := w) bW hb); have n1_ := Aside0.mk (hbox); have n2_ := Aside0.mk (gS (w := w) hg); have n3_ := n2_; clear HB; have HB := n0_; have BK163 := n1_; have GW163 := n2_; have GE163 := n3_; clear n0_ n1_ n2_ n3_; clear hb hbox hg; obtain ⟨hcz20_0, hcz20_1⟩ := cz2 BK163; obtain ⟨hfz20_0, hfz20_1⟩ := fz2 BK163))
                        have n0_ : Aside0 (((w19.setCell ⟨gb163, 0, none⟩ (.string ((rd_T55 l0 x7_1).f0))).setCell ⟨gb163, 1, none⟩ (.int .i64 ((rd_T55 l0 x7_1).f1))).heap[gb163]? = some (.cells #[.string ((rd_T55 l0 x7_1).f0), .int .i64 ((rd_T55 l0 x7_1).f1)] 55 (0, 0))) := ⟨by (with_reducible repeat (first | refine blk_drewN ?_ _ | refine blk_drew ?_ | refine blk_alloc ?_ _)); refine blk_put (cs := #[.string ((rd_T55 l0 x7_1).f0), .int .i64 0]) ?_ 1 _ rfl; (with_reducible repeat (first | refine blk_drewN ?_ _ | refine blk_drew ?_ | refine blk_alloc ?_ _)); refine blk_put (cs := #[.string (⟨#[]⟩ : ByteArray), .int .i64 0]) ?_ 0 _ rfl; (with_reducible repeat (first | refine blk_drewN ?_ _ | refine blk_drew ?_ | refine blk_alloc ?_ _)); exact BK163.out⟩
                        have n1_ : Aside0 (Below w.heap.size w ((w19.setCell ⟨gb163, 0, none⟩ (.string ((rd_T55 l0 x7_1).f0))).setCell ⟨gb163, 1, none⟩ (.int .i64 ((rd_T55 l0 x7_1).f1)))) := ⟨bW⟩
                        (try clear BK163)
                        (try clear HB)
                        generalize ((w19.setCell ⟨gb163, 0, none⟩ (.string ((rd_T55 l0 x7_1).f0))).setCell ⟨gb163, 1, none⟩ (.int .i64 ((rd_T55 l0 x7_1).f1))) = w21 at n0_ n1_ ⊢
                        have BK163 := n0_
                        have HB := n1_
                        clear n0_ n1_
                        have n0_ := Aside0.mk (blk_drew BK163.out)
                        have n1_ := Aside0.mk (below_drew1 HB.out)
                        clear BK163
                        clear HB
                        have BK163 := n0_
                        have HB := n1_
                        clear n0_ n1_
                        have p166 : 0 ≤ ((ji10) : Int) := odt
                        have q166 : (ji10) < (l0.length : Int) := odt
                        obtain ⟨ad166, e166, hx166_0, hx166_1⟩ := at_T55 HR0.out (ji10) p166 q166
                        have hw166_1 := hx166_1
                        have hw166_0 := hx166_0
                        obtain rfl : ad162 = ad166 := (by injection e166)
                        replace hx166_0 := (HB.out.cell (World.block_lt_of_cell? w _ hx166_0)).trans hx166_0
                        replace hx166_1 := (HB.out.cell (World.block_lt_of_cell? w _ hx166_1)).trans hx166_1
                        replace p166 := eq_true p166
                        replace q166 := eq_true q166
                        refine start_ (n := 25) (S := fun w' => w'.cell? ⟨gb163, 0, none⟩ = some (.string ((rd_T55 l0 x7_1).f0)) ∧ w'.cell? ⟨gb163, 1, none⟩ = some (.int .i64 ((rd_T55 l0 x7_1).f1)) ∧ w'.cell? (ad162.add (((ji10)).toNat * 2)) = some (.string ((rd_T55 l0 (ji10)).f0)) ∧ w'.cell? ⟨(ad162.add (((ji10)).toNat * 2)).block, (ad162.add (((ji10)).toNat * 2)).off + 1, none⟩ = some (.int .i64 ((rd_T55 l0 (ji10)).f1))) (ds := []) impl_MapOK.m0 (by kernel_rfl) rfl rfl ⟨(blk_cell BK163.out 0).trans rfl, (blk_cell BK163.out 1).trans rfl, ((HB.out.cell (World.block_lt_of_cell? w _ hw166_0)).trans hw166_0), ((HB.out.cell (World.block_lt_of_cell? w _ hw166_1)).trans hw166_1)⟩ (fun hHeld => ?_); refine with_tabW impl_MapOK.tab4 impl_MapOK.bits4 (fun HT_ HW_ => ?_)
                        generalize w21.drew = w22 at BK163 HB hx166_0 hx166_1 hHeld ⊢
                        refine pure_ (i := 0) (N := some 12) (v := ?_) (a' := ?_) impl_MapOK.m1 rfl rfl (any_of HT_.out (by kernel_rfl)) (fun _ _ _ h => h) (Or.inl ⟨by rfl, ?_⟩) ?_ ?_; rotate_left; (focus intro w'; go_simp; with_reducible rfl); rotate_left; (focus simp only [pt, i64_w, i32_w]; rfl)
                        refine take_ (i := 1) (N := some 13) (v := ?_) (a' := ?_) impl_MapOK.m2 rfl rfl (take_ofW HT_.out HW_.out (by kernel_rfl)) (fun _ _ _ h => h) (Or.inl ⟨by rfl, ?_⟩) hHeld ?_ ?_; rotate_left; (focus rintro w' ⟨s0, s1, s2, s3⟩; go_simp; with_reducible rfl); rotate_left; (focus simp only [pt, i64_w, i32_w]; rfl)
                        refine one_ (i := 2) (N := some 14) impl_MapOK.m3 rfl rfl (one_of HT_.out (by kernel_rfl)) (by decide) (fun K hK => ?_)
                        refine goes_ Try.func65 (by kernel_rfl) rfl #[.string ((rd_T55 l0 x7_1).f0)] (by rfl) rfl rfl gA ?_
                        with_reducible refine (impl_NameOK.calls ((rd_T55 l0 x7_1).f0) true _ A5.out).mono ?_
                        rintro e w23 ⟨rfl, hb⟩
                        refine ⟨_, rfl, ?_⟩
                        have n0_ := Aside0.mk (kb BK163 hb)
                        have n1_ := Aside0.mk (below_step (w := w) bW hb)
                        clear BK163
                        clear HB
                        have BK163 := n0_
                        have HB := n1_
                        clear n0_ n1_
                        (try clear hb)
                        (try clear hb2)
                        (try clear hk)
                        (try clear hi)
                        refine hK.out _ _ ⟨(blk_cell BK163.out 0).trans rfl, (blk_cell BK163.out 1).trans rfl, ((HB.out.cell (World.block_lt_of_cell? w _ hw166_0)).trans hw166_0), ((HB.out.cell (World.block_lt_of_cell? w _ hw166_1)).trans hw166_1)⟩ (fun hHeld => ?_)
                        clear hK K
                        refine norm_ (a' := ?_) ?_ ?_
                        rotate_left
                        · show Act.put _ (some 14) _ = _
                          simp only [Act.put, List.setIfInBounds_toArray, List.set_cons_zero, List.set_cons_succ, i64_w, i32_w]
                          rfl
                        refine pure_ (i := 3) (N := some 15) (v := ?_) (a' := ?_) impl_MapOK.m4 rfl rfl (any_of HT_.out (by kernel_rfl)) (fun _ _ _ h => h) (Or.inl ⟨by rfl, ?_⟩) ?_ ?_; rotate_left; (focus intro w'; go_simp; with_reducible rfl); rotate_left; (focus simp only [pt, i64_w, i32_w]; rfl)
                        refine pure_ (i := 4) (N := some 16) (v := ?_) (a' := ?_) impl_MapOK.m5 rfl rfl (any_of HT_.out (by kernel_rfl)) (fun _ _ _ h => h) (Or.inl ⟨by rfl, ?_⟩) ?_ ?_; rotate_left; (focus intro w'; go_simp; with_reducible rfl); rotate_left; (focus simp only [pt, i64_w, i32_w]; rfl)
                        refine pure_ (i := 5) (N := some 17) (v := ?_) (a' := ?_) impl_MapOK.m6 rfl rfl (any_of HT_.out (by kernel_rfl)) (fun _ _ _ h => h) (Or.inl ⟨by rfl, ?_⟩) ?_ ?_; rotate_left; (focus intro w'; go_simp; with_reducible rfl); rotate_left; (focus simp only [pt, i64_w, i32_w]; rfl)
                        refine take_ (i := 6) (N := some 18) (v := ?_) (a' := ?_) impl_MapOK.m7 rfl rfl (take_ofW HT_.out HW_.out (by kernel_rfl)) (fun _ _ _ h => h) (Or.inl ⟨by rfl, ?_⟩) hHeld ?_ ?_; rotate_left; (focus rintro w' ⟨s0, s1, s2, s3⟩; go_simp; with_reducible rfl); rotate_left; (focus simp only [pt, i64_w, i32_w]; rfl)
                        refine one_ (i := 7) (N := some 19) impl_MapOK.m8 rfl rfl (one_of HT_.out (by kernel_rfl)) (by decide) (fun K hK => ?_)
                        refine goes_ Try.func66 (by kernel_rfl) rfl #[.int .i64 ((rd_T55 l0 x7_1).f1)] (by rfl) rfl rfl gA ?_
                        with_reducible refine (impl_isValue.calls ((rd_T55 l0 x7_1).f1) true _ A7.out).mono ?_
                        rintro e w' ⟨rfl, ⟨nd, rfl⟩⟩
                        refine ⟨_, rfl, ?_⟩
                        refine hK.out _ _ ⟨(blk_cell BK163.out 0).trans rfl, (blk_cell BK163.out 1).trans rfl, ((HB.out.cell (World.block_lt_of_cell? w _ hw166_0)).trans hw166_0), ((HB.out.cell (World.block_lt_of_cell? w _ hw166_1)).trans hw166_1)⟩ (fun hHeld => ?_)
                        clear hK K
                        refine norm_ (a' := ?_) ?_ ?_
                        rotate_left
                        · show Act.put _ (some 19) _ = _
                          simp only [Act.put, List.setIfInBounds_toArray, List.set_cons_zero, List.set_cons_succ, i64_w, i32_w]
                          rfl
                        refine pure_ (i := 8) (N := some 20) (v := ?_) (a' := ?_) impl_MapOK.m9 rfl rfl (any_of HT_.out (by kernel_rfl)) (fun _ _ _ h => h) (Or.inl ⟨by rfl, ?_⟩) ?_ ?_; rotate_left; (focus intro w'; go_simp; with_reducible rfl); rotate_left; (focus simp only [pt, i64_w, i32_w]; rfl)
                        refine pure_ (i := 9) (N := some 21) (v := ?_) (a' := ?_) impl_MapOK.m10 rfl rfl (any_of HT_.out (by kernel_rfl)) (fun _ _ _ h => h) (Or.inl ⟨by rfl, ?_⟩) ?_ ?_; rotate_left; (focus intro w'; go_simp; with_reducible rfl); rotate_left; (focus simp only [pt, i64_w, i32_w]; rfl)
                        refine pure_ (i := 10) (N := some 22) (v := ?_) (a' := ?_) impl_MapOK.m11 rfl rfl (any_of HT_.out (by kernel_rfl)) (fun _ _ _ h => h) (Or.inl ⟨by rfl, ?_⟩) ?_ ?_; rotate_left; (focus intro w'; go_simp; with_reducible rfl); rotate_left; (focus simp only [pt, i64_w, i32_w]; rfl)
                        refine pure_ (i := 11) (N := some 23) (v := ?_) (a' := ?_) impl_MapOK.m12 rfl rfl (any_of HT_.out (by kernel_rfl)) (fun _ _ _ h => h) (Or.inl ⟨by rfl, ?_⟩) ?_ ?_; rotate_left; (focus intro w'; go_simp; with_reducible rfl); rotate_left; (focus simp only [pt, i64_w, i32_w]; rfl)
                        refine pure_ (i := 12) (N := some 24) (v := ?_) (a' := ?_) impl_MapOK.m13 rfl rfl (any_of HT_.out (by kernel_rfl)) (fun _ _ _ h => h) (Or.inl ⟨by rfl, ?_⟩) ?_ ?_; rotate_left; (focus intro w'; go_simp; with_reducible rfl); rotate_left; (focus simp only [pt, i64_w, i32_w]; rfl)
                        refine pure_ (i := 13) (N := some 25) (v := ?_) (a' := ?_) impl_MapOK.m14 rfl rfl (any_of HT_.out (by kernel_rfl)) (fun _ _ _ h => h) (Or.inl ⟨by rfl, ?_⟩) ?_ ?_; rotate_left; (focus intro w'; go_simp; with_reducible rfl); rotate_left; (focus simp only [pt, i64_w, i32_w]; rfl)
                        refine pure_ (i := 14) (N := some 26) (v := ?_) (a' := ?_) impl_MapOK.m15 rfl rfl (any_of HT_.out (by kernel_rfl)) (fun _ _ _ h => h) (Or.inl ⟨by rfl, ?_⟩) ?_ ?_; rotate_left; (focus intro w'; go_simp; with_reducible rfl); rotate_left; (focus simp only [pt, i64_w, i32_w]; rfl)
                        refine pure_ (i := 15) (N := some 27) (v := ?_) (a' := ?_) impl_MapOK.m16 rfl rfl (any_of HT_.out (by kernel_rfl)) (fun _ _ _ h => h) (Or.inl ⟨by rfl, ?_⟩) ?_ ?_; rotate_left; (focus intro w'; go_simp; with_reducible rfl); rotate_left; (focus simp only [pt, i64_w, i32_w]; rfl)
                        refine pure_ (i := 16) (N := some 28) (v := ?_) (a' := ?_) impl_MapOK.m17 rfl rfl (any_of HT_.out (by kernel_rfl)) (fun _ _ _ h => h) (Or.inl ⟨by rfl, ?_⟩) ?_ ?_; rotate_left; (focus intro w'; go_simp; with_reducible rfl); rotate_left; (focus simp only [pt, i64_w, i32_w]; rfl)
                        refine pure_ (i := 17) (N := some 29) (v := ?_) (a' := ?_) impl_MapOK.m18 rfl rfl (any_of HT_.out (by kernel_rfl)) (fun _ _ _ h => h) (Or.inl ⟨by rfl, ?_⟩) ?_ ?_; rotate_left; (focus intro w'; go_simp; with_reducible rfl); rotate_left; (focus simp only [pt, i64_w, i32_w]; rfl)
                        refine pure_ (i := 18) (N := some 30) (v := ?_) (a' := ?_) impl_MapOK.m19 rfl rfl (any_of HT_.out (by kernel_rfl)) (fun _ _ _ h => h) (Or.inl ⟨by rfl, ?_⟩) ?_ ?_; rotate_left; (focus intro w'; go_simp; with_reducible rfl); rotate_left; (focus simp only [pt, i64_w, i32_w]; rfl)
                        refine pure_ (i := 20) (N := some 32) (v := ?_) (a' := ?_) impl_MapOK.m20 rfl rfl (any_of HT_.out (by kernel_rfl)) (fun _ _ _ h => h) (Or.inl ⟨by rfl, ?_⟩) ?_ ?_; rotate_left; (focus intro w'; go_simp; with_reducible rfl); rotate_left; (focus simp only [pt, i64_w, i32_w]; rfl)
                        refine take_ (i := 19) (N := some 31) (v := ?_) (a' := ?_) impl_MapOK.m21 rfl rfl (take_ofW HT_.out HW_.out (by kernel_rfl)) (fun _ _ _ h => h) (Or.inl ⟨by rfl, ?_⟩) hHeld ?_ ?_; rotate_left; (focus rintro w' ⟨s0, s1, s2, s3⟩; go_simp; with_reducible rfl); rotate_left; (focus simp only [pt, i64_w, i32_w]; rfl)
                        refine take_ (i := 21) (N := some 33) (v := ?_) (a' := ?_) impl_MapOK.m22 rfl rfl (take_ofW HT_.out HW_.out (by kernel_rfl)) (fun _ _ _ h => h) (Or.inl ⟨by rfl, ?_⟩) hHeld ?_ ?_; rotate_left; (focus rintro w' ⟨s0, s1, s2, s3⟩; go_simp; with_reducible rfl); rotate_left; (focus simp only [pt, i64_w, i32_w]; rfl)
                        refine pure_ (i := 22) (N := some 34) (v := ?_) (a' := ?_) impl_MapOK.m23 rfl rfl (any_of HT_.out (by kernel_rfl)) (fun _ _ _ h => h) (Or.inl ⟨by rfl, ?_⟩) ?_ ?_; rotate_left; (focus intro w'; go_simp; with_reducible rfl); rotate_left; (focus simp only [pt, i64_w, i32_w]; rfl)
                        refine pure_ (i := 23) (N := some 35) (v := ?_) (a' := ?_) impl_MapOK.m24 rfl rfl (any_of HT_.out (by kernel_rfl)) (fun _ _ _ h => h) (Or.inl ⟨by rfl, ?_⟩) ?_ ?_; rotate_left; (focus intro w'; go_simp; with_reducible rfl); rotate_left; (focus simp only [pt, i64_w, i32_w]; rfl)
                        refine pure_ (i := 24) (N := some 36) (v := ?_) (a' := ?_) impl_MapOK.m25 rfl rfl (any_of HT_.out (by kernel_rfl)) (fun _ _ _ h => h) (Or.inl ⟨by rfl, ?_⟩) ?_ ?_; rotate_left; (focus intro w'; go_simp; with_reducible rfl); rotate_left; (focus simp only [pt, i64_w, i32_w]; rfl)
                        refine done_ (done_of HT_.out (by kernel_rfl)) ?_
                        try go_wp2
                        go_ret
                        exact ⟨by first | rfl | (simp [errW_none, errW_some] <;> rfl) | (simp only [← hji10]; first | rfl | (simp [errW_none, errW_some] <;> rfl)) | (simp [*, errW_none, errW_some] <;> rfl), bW⟩
                    · rw [if_neg c12] at H
                      exact absurd H (by simp)
                  · rw [if_neg c11] at H
                    exact absurd H (by simp)
                · rw [if_neg c9] at H
                  have c9b0 : decide (0 < x7_1) = false := decide_eq_false c9
                  clear c9
                  have H' := Aside0.mk H
                  clear H
                  have p162 : 0 ≤ (x7_1 : Int) := odt
                  have q162 : x7_1 < (l0.length : Int) := odt
                  obtain ⟨ad162, e162, hx162_0, hx162_1⟩ := at_T55 HR0.out x7_1 p162 q162
                  cases e162
                  replace hx162_0 := (HB.out.cell (World.block_lt_of_cell? w _ hx162_0)).trans hx162_0
                  replace hx162_1 := (HB.out.cell (World.block_lt_of_cell? w _ hx162_1)).trans hx162_1
                  replace p162 := eq_true p162
                  replace q162 := eq_true q162
                  try go_wp2_with (first | ((with_reducible refine gate_dst (N := 4) rfl ?_); refine bE (N := 4) (cs := #[.string (⟨#[]⟩ : ByteArray), .int .i64 0]) (t := 55) ?_; intro gb163 hg w24 hbox hb; have n0_ := Aside0.mk (below_step (w := w) bW hb); have n1_ := Aside0.mk (hbox); have n2_ := Aside0.mk (gS (w := w) hg); have n3_ := n2_; clear HB; have HB := n0_; have BK163 := n1_; have GW163 := n2_; have GE163 := n3_; clear n0_ n1_ n2_ n3_; clear hb hbox hg; obtain ⟨hcz25_0, hcz25_1⟩ := cz2 BK163; obtain ⟨hfz25_0, hfz25_1⟩ := fz2 BK163))
                  have n0_ : Aside0 (((w24.setCell ⟨gb163, 0, none⟩ (.string ((rd_T55 l0 x7_1).f0))).setCell ⟨gb163, 1, none⟩ (.int .i64 ((rd_T55 l0 x7_1).f1))).heap[gb163]? = some (.cells #[.string ((rd_T55 l0 x7_1).f0), .int .i64 ((rd_T55 l0 x7_1).f1)] 55 (0, 0))) := ⟨by (with_reducible repeat (first | refine blk_drewN ?_ _ | refine blk_drew ?_ | refine blk_alloc ?_ _)); refine blk_put (cs := #[.string ((rd_T55 l0 x7_1).f0), .int .i64 0]) ?_ 1 _ rfl; (with_reducible repeat (first | refine blk_drewN ?_ _ | refine blk_drew ?_ | refine blk_alloc ?_ _)); refine blk_put (cs := #[.string (⟨#[]⟩ : ByteArray), .int .i64 0]) ?_ 0 _ rfl; (with_reducible repeat (first | refine blk_drewN ?_ _ | refine blk_drew ?_ | refine blk_alloc ?_ _)); exact BK163.out⟩
                  have n1_ : Aside0 (Below w.heap.size w ((w24.setCell ⟨gb163, 0, none⟩ (.string ((rd_T55 l0 x7_1).f0))).setCell ⟨gb163, 1, none⟩ (.int .i64 ((rd_T55 l0 x7_1).f1)))) := ⟨bW⟩
                  (try clear BK163)
                  (try clear HB)
                  generalize ((w24.setCell ⟨gb163, 0, none⟩ (.string ((rd_T55 l0 x7_1).f0))).setCell ⟨gb163, 1, none⟩ (.int .i64 ((rd_T55 l0 x7_1).f1))) = w26 at n0_ n1_ ⊢
                  have BK163 := n0_
                  have HB := n1_
                  clear n0_ n1_
                  have n0_ := Aside0.mk (blk_drew BK163.out)
                  have n1_ := Aside0.mk (below_drew1 HB.out)
                  clear BK163
                  clear HB
                  have BK163 := n0_
                  have HB := n1_
                  clear n0_ n1_
                  refine start_ (n := 25) (S := fun w' => w'.cell? ⟨gb163, 0, none⟩ = some (.string ((rd_T55 l0 x7_1).f0)) ∧ w'.cell? ⟨gb163, 1, none⟩ = some (.int .i64 ((rd_T55 l0 x7_1).f1))) (ds := []) impl_MapOK.m0 (by kernel_rfl) rfl rfl ⟨(blk_cell BK163.out 0).trans rfl, (blk_cell BK163.out 1).trans rfl⟩ (fun hHeld => ?_); refine with_tabW impl_MapOK.tab4 impl_MapOK.bits4 (fun HT_ HW_ => ?_)
                  generalize w26.drew = w27 at BK163 HB hHeld ⊢
                  refine pure_ (i := 0) (N := some 12) (v := ?_) (a' := ?_) impl_MapOK.m1 rfl rfl (any_of HT_.out (by kernel_rfl)) (fun _ _ _ h => h) (Or.inl ⟨by rfl, ?_⟩) ?_ ?_; rotate_left; (focus intro w'; go_simp; with_reducible rfl); rotate_left; (focus simp only [pt, i64_w, i32_w]; rfl)
                  refine take_ (i := 1) (N := some 13) (v := ?_) (a' := ?_) impl_MapOK.m2 rfl rfl (take_ofW HT_.out HW_.out (by kernel_rfl)) (fun _ _ _ h => h) (Or.inl ⟨by rfl, ?_⟩) hHeld ?_ ?_; rotate_left; (focus rintro w' ⟨s0, s1⟩; go_simp; with_reducible rfl); rotate_left; (focus simp only [pt, i64_w, i32_w]; rfl)
                  refine one_ (i := 2) (N := some 14) impl_MapOK.m3 rfl rfl (one_of HT_.out (by kernel_rfl)) (by decide) (fun K hK => ?_)
                  refine goes_ Try.func65 (by kernel_rfl) rfl #[.string ((rd_T55 l0 x7_1).f0)] (by rfl) rfl rfl gA ?_
                  with_reducible refine (impl_NameOK.calls ((rd_T55 l0 x7_1).f0) true _ A5.out).mono ?_
                  rintro e w28 ⟨rfl, hb⟩
                  refine ⟨_, rfl, ?_⟩
                  have n0_ := Aside0.mk (kb BK163 hb)
                  have n1_ := Aside0.mk (below_step (w := w) bW hb)
                  clear BK163
                  clear HB
                  have BK163 := n0_
                  have HB := n1_
                  clear n0_ n1_
                  (try clear hb)
                  (try clear hb2)
                  (try clear hk)
                  (try clear hi)
                  refine hK.out _ _ ⟨(blk_cell BK163.out 0).trans rfl, (blk_cell BK163.out 1).trans rfl⟩ (fun hHeld => ?_)
                  clear hK K
                  refine norm_ (a' := ?_) ?_ ?_
                  rotate_left
                  · show Act.put _ (some 14) _ = _
                    simp only [Act.put, List.setIfInBounds_toArray, List.set_cons_zero, List.set_cons_succ, i64_w, i32_w]
                    rfl
                  refine pure_ (i := 3) (N := some 15) (v := ?_) (a' := ?_) impl_MapOK.m4 rfl rfl (any_of HT_.out (by kernel_rfl)) (fun _ _ _ h => h) (Or.inl ⟨by rfl, ?_⟩) ?_ ?_; rotate_left; (focus intro w'; go_simp; with_reducible rfl); rotate_left; (focus simp only [pt, i64_w, i32_w]; rfl)
                  refine pure_ (i := 4) (N := some 16) (v := ?_) (a' := ?_) impl_MapOK.m5 rfl rfl (any_of HT_.out (by kernel_rfl)) (fun _ _ _ h => h) (Or.inl ⟨by rfl, ?_⟩) ?_ ?_; rotate_left; (focus intro w'; go_simp; with_reducible rfl); rotate_left; (focus simp only [pt, i64_w, i32_w]; rfl)
                  refine pure_ (i := 5) (N := some 17) (v := ?_) (a' := ?_) impl_MapOK.m6 rfl rfl (any_of HT_.out (by kernel_rfl)) (fun _ _ _ h => h) (Or.inl ⟨by rfl, ?_⟩) ?_ ?_; rotate_left; (focus intro w'; go_simp; with_reducible rfl); rotate_left; (focus simp only [pt, i64_w, i32_w]; rfl)
                  refine take_ (i := 6) (N := some 18) (v := ?_) (a' := ?_) impl_MapOK.m7 rfl rfl (take_ofW HT_.out HW_.out (by kernel_rfl)) (fun _ _ _ h => h) (Or.inl ⟨by rfl, ?_⟩) hHeld ?_ ?_; rotate_left; (focus rintro w' ⟨s0, s1⟩; go_simp; with_reducible rfl); rotate_left; (focus simp only [pt, i64_w, i32_w]; rfl)
                  refine one_ (i := 7) (N := some 19) impl_MapOK.m8 rfl rfl (one_of HT_.out (by kernel_rfl)) (by decide) (fun K hK => ?_)
                  refine goes_ Try.func66 (by kernel_rfl) rfl #[.int .i64 ((rd_T55 l0 x7_1).f1)] (by rfl) rfl rfl gA ?_
                  with_reducible refine (impl_isValue.calls ((rd_T55 l0 x7_1).f1) true _ A7.out).mono ?_
                  rintro e w' ⟨rfl, ⟨nd, rfl⟩⟩
                  refine ⟨_, rfl, ?_⟩
                  refine hK.out _ _ ⟨(blk_cell BK163.out 0).trans rfl, (blk_cell BK163.out 1).trans rfl⟩ (fun hHeld => ?_)
                  clear hK K
                  refine norm_ (a' := ?_) ?_ ?_
                  rotate_left
                  · show Act.put _ (some 19) _ = _
                    simp only [Act.put, List.setIfInBounds_toArray, List.set_cons_zero, List.set_cons_succ, i64_w, i32_w]
                    rfl
                  refine pure_ (i := 8) (N := some 20) (v := ?_) (a' := ?_) impl_MapOK.m9 rfl rfl (any_of HT_.out (by kernel_rfl)) (fun _ _ _ h => h) (Or.inl ⟨by rfl, ?_⟩) ?_ ?_; rotate_left; (focus intro w'; go_simp; with_reducible rfl); rotate_left; (focus simp only [pt, i64_w, i32_w]; rfl)
                  refine pure_ (i := 9) (N := some 21) (v := ?_) (a' := ?_) impl_MapOK.m10 rfl rfl (any_of HT_.out (by kernel_rfl)) (fun _ _ _ h => h) (Or.inl ⟨by rfl, ?_⟩) ?_ ?_; rotate_left; (focus intro w'; go_simp; with_reducible rfl); rotate_left; (focus simp only [pt, i64_w, i32_w]; rfl)
                  refine pure_ (i := 10) (N := some 22) (v := ?_) (a' := ?_) impl_MapOK.m11 rfl rfl (any_of HT_.out (by kernel_rfl)) (fun _ _ _ h => h) (Or.inl ⟨by rfl, ?_⟩) ?_ ?_; rotate_left; (focus intro w'; go_simp; with_reducible rfl); rotate_left; (focus simp only [pt, i64_w, i32_w]; rfl)
                  refine pure_ (i := 11) (N := some 23) (v := ?_) (a' := ?_) impl_MapOK.m12 rfl rfl (any_of HT_.out (by kernel_rfl)) (fun _ _ _ h => h) (Or.inl ⟨by rfl, ?_⟩) ?_ ?_; rotate_left; (focus intro w'; go_simp; with_reducible rfl); rotate_left; (focus simp only [pt, i64_w, i32_w]; rfl)
                  refine pure_ (i := 12) (N := some 24) (v := ?_) (a' := ?_) impl_MapOK.m13 rfl rfl (any_of HT_.out (by kernel_rfl)) (fun _ _ _ h => h) (Or.inl ⟨by rfl, ?_⟩) ?_ ?_; rotate_left; (focus intro w'; go_simp; with_reducible rfl); rotate_left; (focus simp only [pt, i64_w, i32_w]; rfl)
                  refine pure_ (i := 13) (N := some 25) (v := ?_) (a' := ?_) impl_MapOK.m14 rfl rfl (any_of HT_.out (by kernel_rfl)) (fun _ _ _ h => h) (Or.inl ⟨by rfl, ?_⟩) ?_ ?_; rotate_left; (focus intro w'; go_simp; with_reducible rfl); rotate_left; (focus simp only [pt, i64_w, i32_w]; rfl)
                  refine pure_ (i := 14) (N := some 26) (v := undef) (a' := ?_) impl_MapOK.m15 rfl rfl (any_of HT_.out (by kernel_rfl)) (fun _ _ _ h => h) (Or.inr ⟨by rfl, rfl⟩) ?_ ?_; rotate_left; (focus simp only [pt, i64_w, i32_w]; rfl)
                  refine pure_ (i := 15) (N := some 27) (v := undef) (a' := ?_) impl_MapOK.m16 rfl rfl (any_of HT_.out (by kernel_rfl)) (fun _ _ _ h => h) (Or.inr ⟨by rfl, rfl⟩) ?_ ?_; rotate_left; (focus simp only [pt, i64_w, i32_w]; rfl)
                  refine pure_ (i := 16) (N := some 28) (v := undef) (a' := ?_) impl_MapOK.m17 rfl rfl (any_of HT_.out (by kernel_rfl)) (fun _ _ _ h => h) (Or.inr ⟨by rfl, rfl⟩) ?_ ?_; rotate_left; (focus simp only [pt, i64_w, i32_w]; rfl)
                  refine pure_ (i := 17) (N := some 29) (v := undef) (a' := ?_) impl_MapOK.m18 rfl rfl (any_of HT_.out (by kernel_rfl)) (fun _ _ _ h => h) (Or.inr ⟨by rfl, rfl⟩) ?_ ?_; rotate_left; (focus simp only [pt, i64_w, i32_w]; rfl)
                  refine pure_ (i := 18) (N := some 30) (v := undef) (a' := ?_) impl_MapOK.m19 rfl rfl (any_of HT_.out (by kernel_rfl)) (fun _ _ _ h => h) (Or.inr ⟨by rfl, rfl⟩) ?_ ?_; rotate_left; (focus simp only [pt, i64_w, i32_w]; rfl)
                  refine pure_ (i := 19) (N := some 31) (v := undef) (a' := ?_) impl_MapOK.m26 rfl rfl (any_of HT_.out (by kernel_rfl)) (fun _ _ _ h => h) (Or.inr ⟨by rfl, rfl⟩) ?_ ?_; rotate_left; (focus simp only [pt, i64_w, i32_w]; rfl)
                  refine pure_ (i := 20) (N := some 32) (v := undef) (a' := ?_) impl_MapOK.m21 rfl rfl (any_of HT_.out (by kernel_rfl)) (fun _ _ _ h => h) (Or.inr ⟨by rfl, rfl⟩) ?_ ?_; rotate_left; (focus simp only [pt, i64_w, i32_w]; rfl)
                  refine pure_ (i := 21) (N := some 33) (v := undef) (a' := ?_) impl_MapOK.m22 rfl rfl (any_of HT_.out (by kernel_rfl)) (fun _ _ _ h => h) (Or.inr ⟨by rfl, rfl⟩) ?_ ?_; rotate_left; (focus simp only [pt, i64_w, i32_w]; rfl)
                  refine pure_ (i := 22) (N := some 34) (v := undef) (a' := ?_) impl_MapOK.m23 rfl rfl (any_of HT_.out (by kernel_rfl)) (fun _ _ _ h => h) (Or.inr ⟨by rfl, rfl⟩) ?_ ?_; rotate_left; (focus simp only [pt, i64_w, i32_w]; rfl)
                  refine pure_ (i := 23) (N := some 35) (v := ?_) (a' := ?_) impl_MapOK.m24 rfl rfl (any_of HT_.out (by kernel_rfl)) (fun _ _ _ h => h) (Or.inl ⟨by rfl, ?_⟩) ?_ ?_; rotate_left; (focus intro w'; go_simp; with_reducible rfl); rotate_left; (focus simp only [pt, i64_w, i32_w]; rfl)
                  refine pure_ (i := 24) (N := some 36) (v := ?_) (a' := ?_) impl_MapOK.m25 rfl rfl (any_of HT_.out (by kernel_rfl)) (fun _ _ _ h => h) (Or.inl ⟨by rfl, ?_⟩) ?_ ?_; rotate_left; (focus intro w'; go_simp; with_reducible rfl); rotate_left; (focus simp only [pt, i64_w, i32_w]; rfl)
                  refine done_ (done_of HT_.out (by kernel_rfl)) ?_
                  try go_wp2
                  go_roundg k1
                  case measure => have := HK1.out; omega
                  case rel => exact ⟨(wrap64 (x7_1 + 1)), vE, H', ⟨by have := HK1.out; omega⟩, ⟨bW⟩⟩
              · replace c8 := Bool.eq_false_iff.mpr c8
                subst c8
                have H1 : (some false) = some r := by rw [if_neg (show ¬ (false = true) by decide)] at H; exact H
                clear H
                have H := H1
                clear H1
                obtain rfl := Option.some.inj H
                have p162 : 0 ≤ (x7_1 : Int) := odt
                have q162 : x7_1 < (l0.length : Int) := odt
                obtain ⟨ad162, e162, hx162_0, hx162_1⟩ := at_T55 HR0.out x7_1 p162 q162
                cases e162
                replace hx162_0 := (HB.out.cell (World.block_lt_of_cell? w _ hx162_0)).trans hx162_0
                replace hx162_1 := (HB.out.cell (World.block_lt_of_cell? w _ hx162_1)).trans hx162_1
                replace p162 := eq_true p162
                replace q162 := eq_true q162
                try go_wp2_with (first | ((with_reducible refine gate_dst (N := 4) rfl ?_); refine bE (N := 4) (cs := #[.string (⟨#[]⟩ : ByteArray), .int .i64 0]) (t := 55) ?_; intro gb163 hg w29 hbox hb; have n0_ := Aside0.mk (below_step (w := w) bW hb); have n1_ := Aside0.mk (hbox); have n2_ := Aside0.mk (gS (w := w) hg); have n3_ := n2_; clear HB; have HB := n0_; have BK163 := n1_; have GW163 := n2_; have GE163 := n3_; clear n0_ n1_ n2_ n3_; clear hb hbox hg; obtain ⟨hcz30_0, hcz30_1⟩ := cz2 BK163; obtain ⟨hfz30_0, hfz30_1⟩ := fz2 BK163))
                have n0_ : Aside0 (((w29.setCell ⟨gb163, 0, none⟩ (.string ((rd_T55 l0 x7_1).f0))).setCell ⟨gb163, 1, none⟩ (.int .i64 ((rd_T55 l0 x7_1).f1))).heap[gb163]? = some (.cells #[.string ((rd_T55 l0 x7_1).f0), .int .i64 ((rd_T55 l0 x7_1).f1)] 55 (0, 0))) := ⟨by (with_reducible repeat (first | refine blk_drewN ?_ _ | refine blk_drew ?_ | refine blk_alloc ?_ _)); refine blk_put (cs := #[.string ((rd_T55 l0 x7_1).f0), .int .i64 0]) ?_ 1 _ rfl; (with_reducible repeat (first | refine blk_drewN ?_ _ | refine blk_drew ?_ | refine blk_alloc ?_ _)); refine blk_put (cs := #[.string (⟨#[]⟩ : ByteArray), .int .i64 0]) ?_ 0 _ rfl; (with_reducible repeat (first | refine blk_drewN ?_ _ | refine blk_drew ?_ | refine blk_alloc ?_ _)); exact BK163.out⟩
                have n1_ : Aside0 (Below w.heap.size w ((w29.setCell ⟨gb163, 0, none⟩ (.string ((rd_T55 l0 x7_1).f0))).setCell ⟨gb163, 1, none⟩ (.int .i64 ((rd_T55 l0 x7_1).f1)))) := ⟨bW⟩
                (try clear BK163)
                (try clear HB)
                generalize ((w29.setCell ⟨gb163, 0, none⟩ (.string ((rd_T55 l0 x7_1).f0))).setCell ⟨gb163, 1, none⟩ (.int .i64 ((rd_T55 l0 x7_1).f1))) = w31 at n0_ n1_ ⊢
                have BK163 := n0_
                have HB := n1_
                clear n0_ n1_
                have n0_ := Aside0.mk (blk_drew BK163.out)
                have n1_ := Aside0.mk (below_drew1 HB.out)
                clear BK163
                clear HB
                have BK163 := n0_
                have HB := n1_
                clear n0_ n1_
                refine start_ (n := 25) (S := fun w' => w'.cell? ⟨gb163, 0, none⟩ = some (.string ((rd_T55 l0 x7_1).f0)) ∧ w'.cell? ⟨gb163, 1, none⟩ = some (.int .i64 ((rd_T55 l0 x7_1).f1))) (ds := []) impl_MapOK.m0 (by kernel_rfl) rfl rfl ⟨(blk_cell BK163.out 0).trans rfl, (blk_cell BK163.out 1).trans rfl⟩ (fun hHeld => ?_); refine with_tabW impl_MapOK.tab4 impl_MapOK.bits4 (fun HT_ HW_ => ?_)
                generalize w31.drew = w32 at BK163 HB hHeld ⊢
                refine pure_ (i := 0) (N := some 12) (v := ?_) (a' := ?_) impl_MapOK.m1 rfl rfl (any_of HT_.out (by kernel_rfl)) (fun _ _ _ h => h) (Or.inl ⟨by rfl, ?_⟩) ?_ ?_; rotate_left; (focus intro w'; go_simp; with_reducible rfl); rotate_left; (focus simp only [pt, i64_w, i32_w]; rfl)
                refine take_ (i := 1) (N := some 13) (v := ?_) (a' := ?_) impl_MapOK.m2 rfl rfl (take_ofW HT_.out HW_.out (by kernel_rfl)) (fun _ _ _ h => h) (Or.inl ⟨by rfl, ?_⟩) hHeld ?_ ?_; rotate_left; (focus rintro w' ⟨s0, s1⟩; go_simp; with_reducible rfl); rotate_left; (focus simp only [pt, i64_w, i32_w]; rfl)
                refine one_ (i := 2) (N := some 14) impl_MapOK.m3 rfl rfl (one_of HT_.out (by kernel_rfl)) (by decide) (fun K hK => ?_)
                refine goes_ Try.func65 (by kernel_rfl) rfl #[.string ((rd_T55 l0 x7_1).f0)] (by rfl) rfl rfl gA ?_
                with_reducible refine (impl_NameOK.calls ((rd_T55 l0 x7_1).f0) true _ A5.out).mono ?_
                rintro e w33 ⟨rfl, hb⟩
                refine ⟨_, rfl, ?_⟩
                have n0_ := Aside0.mk (kb BK163 hb)
                have n1_ := Aside0.mk (below_step (w := w) bW hb)
                clear BK163
                clear HB
                have BK163 := n0_
                have HB := n1_
                clear n0_ n1_
                (try clear hb)
                (try clear hb2)
                (try clear hk)
                (try clear hi)
                refine hK.out _ _ ⟨(blk_cell BK163.out 0).trans rfl, (blk_cell BK163.out 1).trans rfl⟩ (fun hHeld => ?_)
                clear hK K
                refine norm_ (a' := ?_) ?_ ?_
                rotate_left
                · show Act.put _ (some 14) _ = _
                  simp only [Act.put, List.setIfInBounds_toArray, List.set_cons_zero, List.set_cons_succ, i64_w, i32_w]
                  rfl
                refine pure_ (i := 3) (N := some 15) (v := ?_) (a' := ?_) impl_MapOK.m4 rfl rfl (any_of HT_.out (by kernel_rfl)) (fun _ _ _ h => h) (Or.inl ⟨by rfl, ?_⟩) ?_ ?_; rotate_left; (focus intro w'; go_simp; with_reducible rfl); rotate_left; (focus simp only [pt, i64_w, i32_w]; rfl)
                refine pure_ (i := 4) (N := some 16) (v := ?_) (a' := ?_) impl_MapOK.m5 rfl rfl (any_of HT_.out (by kernel_rfl)) (fun _ _ _ h => h) (Or.inl ⟨by rfl, ?_⟩) ?_ ?_; rotate_left; (focus intro w'; go_simp; with_reducible rfl); rotate_left; (focus simp only [pt, i64_w, i32_w]; rfl)
                refine pure_ (i := 5) (N := some 17) (v := ?_) (a' := ?_) impl_MapOK.m6 rfl rfl (any_of HT_.out (by kernel_rfl)) (fun _ _ _ h => h) (Or.inl ⟨by rfl, ?_⟩) ?_ ?_; rotate_left; (focus intro w'; go_simp; with_reducible rfl); rotate_left; (focus simp only [pt, i64_w, i32_w]; rfl)
                refine take_ (i := 6) (N := some 18) (v := ?_) (a' := ?_) impl_MapOK.m7 rfl rfl (take_ofW HT_.out HW_.out (by kernel_rfl)) (fun _ _ _ h => h) (Or.inl ⟨by rfl, ?_⟩) hHeld ?_ ?_; rotate_left; (focus rintro w' ⟨s0, s1⟩; go_simp; with_reducible rfl); rotate_left; (focus simp only [pt, i64_w, i32_w]; rfl)
                refine one_ (i := 7) (N := some 19) impl_MapOK.m8 rfl rfl (one_of HT_.out (by kernel_rfl)) (by decide) (fun K hK => ?_)
                refine goes_ Try.func66 (by kernel_rfl) rfl #[.int .i64 ((rd_T55 l0 x7_1).f1)] (by rfl) rfl rfl gA ?_
                with_reducible refine (impl_isValue.calls ((rd_T55 l0 x7_1).f1) false _ A7.out).mono ?_
                rintro e w' ⟨rfl, ⟨nd, rfl⟩⟩
                refine ⟨_, rfl, ?_⟩
                refine hK.out _ _ ⟨(blk_cell BK163.out 0).trans rfl, (blk_cell BK163.out 1).trans rfl⟩ (fun hHeld => ?_)
                clear hK K
                refine norm_ (a' := ?_) ?_ ?_
                rotate_left
                · show Act.put _ (some 19) _ = _
                  simp only [Act.put, List.setIfInBounds_toArray, List.set_cons_zero, List.set_cons_succ, i64_w, i32_w]
                  rfl
                refine pure_ (i := 8) (N := some 20) (v := ?_) (a' := ?_) impl_MapOK.m9 rfl rfl (any_of HT_.out (by kernel_rfl)) (fun _ _ _ h => h) (Or.inl ⟨by rfl, ?_⟩) ?_ ?_; rotate_left; (focus intro w'; go_simp; with_reducible rfl); rotate_left; (focus simp only [pt, i64_w, i32_w]; rfl)
                refine pure_ (i := 9) (N := some 21) (v := ?_) (a' := ?_) impl_MapOK.m10 rfl rfl (any_of HT_.out (by kernel_rfl)) (fun _ _ _ h => h) (Or.inl ⟨by rfl, ?_⟩) ?_ ?_; rotate_left; (focus intro w'; go_simp; with_reducible rfl); rotate_left; (focus simp only [pt, i64_w, i32_w]; rfl)
                refine pure_ (i := 10) (N := some 22) (v := ?_) (a' := ?_) impl_MapOK.m11 rfl rfl (any_of HT_.out (by kernel_rfl)) (fun _ _ _ h => h) (Or.inl ⟨by rfl, ?_⟩) ?_ ?_; rotate_left; (focus intro w'; go_simp; with_reducible rfl); rotate_left; (focus simp only [pt, i64_w, i32_w]; rfl)
                refine pure_ (i := 11) (N := some 23) (v := undef) (a' := ?_) impl_MapOK.m12 rfl rfl (any_of HT_.out (by kernel_rfl)) (fun _ _ _ h => h) (Or.inr ⟨by rfl, rfl⟩) ?_ ?_; rotate_left; (focus simp only [pt, i64_w, i32_w]; rfl)
                refine pure_ (i := 12) (N := some 24) (v := undef) (a' := ?_) impl_MapOK.m13 rfl rfl (any_of HT_.out (by kernel_rfl)) (fun _ _ _ h => h) (Or.inr ⟨by rfl, rfl⟩) ?_ ?_; rotate_left; (focus simp only [pt, i64_w, i32_w]; rfl)
                refine pure_ (i := 13) (N := some 25) (v := undef) (a' := ?_) impl_MapOK.m14 rfl rfl (any_of HT_.out (by kernel_rfl)) (fun _ _ _ h => h) (Or.inr ⟨by rfl, rfl⟩) ?_ ?_; rotate_left; (focus simp only [pt, i64_w, i32_w]; rfl)
                refine pure_ (i := 14) (N := some 26) (v := undef) (a' := ?_) impl_MapOK.m15 rfl rfl (any_of HT_.out (by kernel_rfl)) (fun _ _ _ h => h) (Or.inr ⟨by rfl, rfl⟩) ?_ ?_; rotate_left; (focus simp only [pt, i64_w, i32_w]; rfl)
                refine pure_ (i := 15) (N := some 27) (v := undef) (a' := ?_) impl_MapOK.m16 rfl rfl (any_of HT_.out (by kernel_rfl)) (fun _ _ _ h => h) (Or.inr ⟨by rfl, rfl⟩) ?_ ?_; rotate_left; (focus simp only [pt, i64_w, i32_w]; rfl)
                refine pure_ (i := 16) (N := some 28) (v := undef) (a' := ?_) impl_MapOK.m17 rfl rfl (any_of HT_.out (by kernel_rfl)) (fun _ _ _ h => h) (Or.inr ⟨by rfl, rfl⟩) ?_ ?_; rotate_left; (focus simp only [pt, i64_w, i32_w]; rfl)
                refine pure_ (i := 17) (N := some 29) (v := undef) (a' := ?_) impl_MapOK.m18 rfl rfl (any_of HT_.out (by kernel_rfl)) (fun _ _ _ h => h) (Or.inr ⟨by rfl, rfl⟩) ?_ ?_; rotate_left; (focus simp only [pt, i64_w, i32_w]; rfl)
                refine pure_ (i := 18) (N := some 30) (v := undef) (a' := ?_) impl_MapOK.m19 rfl rfl (any_of HT_.out (by kernel_rfl)) (fun _ _ _ h => h) (Or.inr ⟨by rfl, rfl⟩) ?_ ?_; rotate_left; (focus simp only [pt, i64_w, i32_w]; rfl)
                refine pure_ (i := 19) (N := some 31) (v := undef) (a' := ?_) impl_MapOK.m26 rfl rfl (any_of HT_.out (by kernel_rfl)) (fun _ _ _ h => h) (Or.inr ⟨by rfl, rfl⟩) ?_ ?_; rotate_left; (focus simp only [pt, i64_w, i32_w]; rfl)
                refine pure_ (i := 20) (N := some 32) (v := undef) (a' := ?_) impl_MapOK.m21 rfl rfl (any_of HT_.out (by kernel_rfl)) (fun _ _ _ h => h) (Or.inr ⟨by rfl, rfl⟩) ?_ ?_; rotate_left; (focus simp only [pt, i64_w, i32_w]; rfl)
                refine pure_ (i := 21) (N := some 33) (v := undef) (a' := ?_) impl_MapOK.m22 rfl rfl (any_of HT_.out (by kernel_rfl)) (fun _ _ _ h => h) (Or.inr ⟨by rfl, rfl⟩) ?_ ?_; rotate_left; (focus simp only [pt, i64_w, i32_w]; rfl)
                refine pure_ (i := 22) (N := some 34) (v := undef) (a' := ?_) impl_MapOK.m23 rfl rfl (any_of HT_.out (by kernel_rfl)) (fun _ _ _ h => h) (Or.inr ⟨by rfl, rfl⟩) ?_ ?_; rotate_left; (focus simp only [pt, i64_w, i32_w]; rfl)
                refine pure_ (i := 23) (N := some 35) (v := undef) (a' := ?_) impl_MapOK.m24 rfl rfl (any_of HT_.out (by kernel_rfl)) (fun _ _ _ h => h) (Or.inr ⟨by rfl, rfl⟩) ?_ ?_; rotate_left; (focus simp only [pt, i64_w, i32_w]; rfl)
                refine pure_ (i := 24) (N := some 36) (v := ?_) (a' := ?_) impl_MapOK.m25 rfl rfl (any_of HT_.out (by kernel_rfl)) (fun _ _ _ h => h) (Or.inl ⟨by rfl, ?_⟩) ?_ ?_; rotate_left; (focus intro w'; go_simp; with_reducible rfl); rotate_left; (focus simp only [pt, i64_w, i32_w]; rfl)
                refine done_ (done_of HT_.out (by kernel_rfl)) ?_
                try go_wp2
                go_ret
                exact ⟨rE, bW⟩
            · replace c6 := Bool.eq_false_iff.mpr c6
              subst c6
              have H1 : (some false) = some r := by rw [if_neg (show ¬ (false = true) by decide)] at H; exact H
              clear H
              have H := H1
              clear H1
              obtain rfl := Option.some.inj H
              have p162 : 0 ≤ (x7_1 : Int) := odt
              have q162 : x7_1 < (l0.length : Int) := odt
              obtain ⟨ad162, e162, hx162_0, hx162_1⟩ := at_T55 HR0.out x7_1 p162 q162
              cases e162
              replace hx162_0 := (HB.out.cell (World.block_lt_of_cell? w _ hx162_0)).trans hx162_0
              replace hx162_1 := (HB.out.cell (World.block_lt_of_cell? w _ hx162_1)).trans hx162_1
              replace p162 := eq_true p162
              replace q162 := eq_true q162
              try go_wp2_with (first | ((with_reducible refine gate_dst (N := 4) rfl ?_); refine bE (N := 4) (cs := #[.string (⟨#[]⟩ : ByteArray), .int .i64 0]) (t := 55) ?_; intro gb163 hg w34 hbox hb; have n0_ := Aside0.mk (below_step (w := w) bW hb); have n1_ := Aside0.mk (hbox); have n2_ := Aside0.mk (gS (w := w) hg); have n3_ := n2_; clear HB; have HB := n0_; have BK163 := n1_; have GW163 := n2_; have GE163 := n3_; clear n0_ n1_ n2_ n3_; clear hb hbox hg; obtain ⟨hcz35_0, hcz35_1⟩ := cz2 BK163; obtain ⟨hfz35_0, hfz35_1⟩ := fz2 BK163))
              have n0_ : Aside0 (((w34.setCell ⟨gb163, 0, none⟩ (.string ((rd_T55 l0 x7_1).f0))).setCell ⟨gb163, 1, none⟩ (.int .i64 ((rd_T55 l0 x7_1).f1))).heap[gb163]? = some (.cells #[.string ((rd_T55 l0 x7_1).f0), .int .i64 ((rd_T55 l0 x7_1).f1)] 55 (0, 0))) := ⟨by (with_reducible repeat (first | refine blk_drewN ?_ _ | refine blk_drew ?_ | refine blk_alloc ?_ _)); refine blk_put (cs := #[.string ((rd_T55 l0 x7_1).f0), .int .i64 0]) ?_ 1 _ rfl; (with_reducible repeat (first | refine blk_drewN ?_ _ | refine blk_drew ?_ | refine blk_alloc ?_ _)); refine blk_put (cs := #[.string (⟨#[]⟩ : ByteArray), .int .i64 0]) ?_ 0 _ rfl; (with_reducible repeat (first | refine blk_drewN ?_ _ | refine blk_drew ?_ | refine blk_alloc ?_ _)); exact BK163.out⟩
              have n1_ : Aside0 (Below w.heap.size w ((w34.setCell ⟨gb163, 0, none⟩ (.string ((rd_T55 l0 x7_1).f0))).setCell ⟨gb163, 1, none⟩ (.int .i64 ((rd_T55 l0 x7_1).f1)))) := ⟨bW⟩
              (try clear BK163)
              (try clear HB)
              generalize ((w34.setCell ⟨gb163, 0, none⟩ (.string ((rd_T55 l0 x7_1).f0))).setCell ⟨gb163, 1, none⟩ (.int .i64 ((rd_T55 l0 x7_1).f1))) = w36 at n0_ n1_ ⊢
              have BK163 := n0_
              have HB := n1_
              clear n0_ n1_
              have n0_ := Aside0.mk (blk_drew BK163.out)
              have n1_ := Aside0.mk (below_drew1 HB.out)
              clear BK163
              clear HB
              have BK163 := n0_
              have HB := n1_
              clear n0_ n1_
              refine start_ (n := 25) (S := fun w' => w'.cell? ⟨gb163, 0, none⟩ = some (.string ((rd_T55 l0 x7_1).f0)) ∧ w'.cell? ⟨gb163, 1, none⟩ = some (.int .i64 ((rd_T55 l0 x7_1).f1))) (ds := []) impl_MapOK.m0 (by kernel_rfl) rfl rfl ⟨(blk_cell BK163.out 0).trans rfl, (blk_cell BK163.out 1).trans rfl⟩ (fun hHeld => ?_); refine with_tabW impl_MapOK.tab4 impl_MapOK.bits4 (fun HT_ HW_ => ?_)
              generalize w36.drew = w37 at BK163 HB hHeld ⊢
              refine pure_ (i := 0) (N := some 12) (v := ?_) (a' := ?_) impl_MapOK.m1 rfl rfl (any_of HT_.out (by kernel_rfl)) (fun _ _ _ h => h) (Or.inl ⟨by rfl, ?_⟩) ?_ ?_; rotate_left; (focus intro w'; go_simp; with_reducible rfl); rotate_left; (focus simp only [pt, i64_w, i32_w]; rfl)
              refine take_ (i := 1) (N := some 13) (v := ?_) (a' := ?_) impl_MapOK.m2 rfl rfl (take_ofW HT_.out HW_.out (by kernel_rfl)) (fun _ _ _ h => h) (Or.inl ⟨by rfl, ?_⟩) hHeld ?_ ?_; rotate_left; (focus rintro w' ⟨s0, s1⟩; go_simp; with_reducible rfl); rotate_left; (focus simp only [pt, i64_w, i32_w]; rfl)
              refine one_ (i := 2) (N := some 14) impl_MapOK.m3 rfl rfl (one_of HT_.out (by kernel_rfl)) (by decide) (fun K hK => ?_)
              refine goes_ Try.func65 (by kernel_rfl) rfl #[.string ((rd_T55 l0 x7_1).f0)] (by rfl) rfl rfl gA ?_
              with_reducible refine (impl_NameOK.calls ((rd_T55 l0 x7_1).f0) false _ A5.out).mono ?_
              rintro e w38 ⟨rfl, hb⟩
              refine ⟨_, rfl, ?_⟩
              have n0_ := Aside0.mk (kb BK163 hb)
              have n1_ := Aside0.mk (below_step (w := w) bW hb)
              clear BK163
              clear HB
              have BK163 := n0_
              have HB := n1_
              clear n0_ n1_
              (try clear hb)
              (try clear hb2)
              (try clear hk)
              (try clear hi)
              refine hK.out _ _ ⟨(blk_cell BK163.out 0).trans rfl, (blk_cell BK163.out 1).trans rfl⟩ (fun hHeld => ?_)
              clear hK K
              refine norm_ (a' := ?_) ?_ ?_
              rotate_left
              · show Act.put _ (some 14) _ = _
                simp only [Act.put, List.setIfInBounds_toArray, List.set_cons_zero, List.set_cons_succ, i64_w, i32_w]
                rfl
              refine pure_ (i := 3) (N := some 15) (v := ?_) (a' := ?_) impl_MapOK.m4 rfl rfl (any_of HT_.out (by kernel_rfl)) (fun _ _ _ h => h) (Or.inl ⟨by rfl, ?_⟩) ?_ ?_; rotate_left; (focus intro w'; go_simp; with_reducible rfl); rotate_left; (focus simp only [pt, i64_w, i32_w]; rfl)
              refine pure_ (i := 4) (N := some 16) (v := ?_) (a' := ?_) impl_MapOK.m5 rfl rfl (any_of HT_.out (by kernel_rfl)) (fun _ _ _ h => h) (Or.inl ⟨by rfl, ?_⟩) ?_ ?_; rotate_left; (focus intro w'; go_simp; with_reducible rfl); rotate_left; (focus simp only [pt, i64_w, i32_w]; rfl)
              refine pure_ (i := 5) (N := some 17) (v := undef) (a' := ?_) impl_MapOK.m6 rfl rfl (any_of HT_.out (by kernel_rfl)) (fun _ _ _ h => h) (Or.inr ⟨by rfl, rfl⟩) ?_ ?_; rotate_left; (focus simp only [pt, i64_w, i32_w]; rfl)
              refine pure_ (i := 6) (N := some 18) (v := undef) (a' := ?_) impl_MapOK.m7 rfl rfl (any_of HT_.out (by kernel_rfl)) (fun _ _ _ h => h) (Or.inr ⟨by rfl, rfl⟩) ?_ ?_; rotate_left; (focus simp only [pt, i64_w, i32_w]; rfl)
              refine pure_ (i := 7) (N := some 19) (v := undef) (a' := ?_) impl_MapOK.m8 rfl rfl (any_of HT_.out (by kernel_rfl)) (fun _ _ _ h => h) (Or.inr ⟨by rfl, rfl⟩) ?_ ?_; rotate_left; (focus simp only [pt, i64_w, i32_w]; rfl)
              refine pure_ (i := 8) (N := some 20) (v := undef) (a' := ?_) impl_MapOK.m9 rfl rfl (any_of HT_.out (by kernel_rfl)) (fun _ _ _ h => h) (Or.inr ⟨by rfl, rfl⟩) ?_ ?_; rotate_left; (focus simp only [pt, i64_w, i32_w]; rfl)
              refine pure_ (i := 9) (N := some 21) (v := ?_) (a' := ?_) impl_MapOK.m10 rfl rfl (any_of HT_.out (by kernel_rfl)) (fun _ _ _ h => h) (Or.inl ⟨by rfl, ?_⟩) ?_ ?_; rotate_left; (focus intro w'; go_simp; with_reducible rfl); rotate_left; (focus simp only [pt, i64_w, i32_w]; rfl)
              refine pure_ (i := 10) (N := some 22) (v := ?_) (a' := ?_) impl_MapOK.m11 rfl rfl (any_of HT_.out (by kernel_rfl)) (fun _ _ _ h => h) (Or.inl ⟨by rfl, ?_⟩) ?_ ?_; rotate_left; (focus intro w'; go_simp; with_reducible rfl); rotate_left; (focus simp only [pt, i64_w, i32_w]; rfl)
              refine pure_ (i := 11) (N := some 23) (v := undef) (a' := ?_) impl_MapOK.m12 rfl rfl (any_of HT_.out (by kernel_rfl)) (fun _ _ _ h => h) (Or.inr ⟨by rfl, rfl⟩) ?_ ?_; rotate_left; (focus simp only [pt, i64_w, i32_w]; rfl)
              refine pure_ (i := 12) (N := some 24) (v := undef) (a' := ?_) impl_MapOK.m13 rfl rfl (any_of HT_.out (by kernel_rfl)) (fun _ _ _ h => h) (Or.inr ⟨by rfl, rfl⟩) ?_ ?_; rotate_left; (focus simp only [pt, i64_w, i32_w]; rfl)
              refine pure_ (i := 13) (N := some 25) (v := undef) (a' := ?_) impl_MapOK.m14 rfl rfl (any_of HT_.out (by kernel_rfl)) (fun _ _ _ h => h) (Or.inr ⟨by rfl, rfl⟩) ?_ ?_; rotate_left; (focus simp only [pt, i64_w, i32_w]; rfl)
              refine pure_ (i := 14) (N := some 26) (v := undef) (a' := ?_) impl_MapOK.m15 rfl rfl (any_of HT_.out (by kernel_rfl)) (fun _ _ _ h => h) (Or.inr ⟨by rfl, rfl⟩) ?_ ?_; rotate_left; (focus simp only [pt, i64_w, i32_w]; rfl)
              refine pure_ (i := 15) (N := some 27) (v := undef) (a' := ?_) impl_MapOK.m16 rfl rfl (any_of HT_.out (by kernel_rfl)) (fun _ _ _ h => h) (Or.inr ⟨by rfl, rfl⟩) ?_ ?_; rotate_left; (focus simp only [pt, i64_w, i32_w]; rfl)
              refine pure_ (i := 16) (N := some 28) (v := undef) (a' := ?_) impl_MapOK.m17 rfl rfl (any_of HT_.out (by kernel_rfl)) (fun _ _ _ h => h) (Or.inr ⟨by rfl, rfl⟩) ?_ ?_; rotate_left; (focus simp only [pt, i64_w, i32_w]; rfl)
              refine pure_ (i := 17) (N := some 29) (v := undef) (a' := ?_) impl_MapOK.m18 rfl rfl (any_of HT_.out (by kernel_rfl)) (fun _ _ _ h => h) (Or.inr ⟨by rfl, rfl⟩) ?_ ?_; rotate_left; (focus simp only [pt, i64_w, i32_w]; rfl)
              refine pure_ (i := 18) (N := some 30) (v := undef) (a' := ?_) impl_MapOK.m19 rfl rfl (any_of HT_.out (by kernel_rfl)) (fun _ _ _ h => h) (Or.inr ⟨by rfl, rfl⟩) ?_ ?_; rotate_left; (focus simp only [pt, i64_w, i32_w]; rfl)
              refine pure_ (i := 19) (N := some 31) (v := undef) (a' := ?_) impl_MapOK.m26 rfl rfl (any_of HT_.out (by kernel_rfl)) (fun _ _ _ h => h) (Or.inr ⟨by rfl, rfl⟩) ?_ ?_; rotate_left; (focus simp only [pt, i64_w, i32_w]; rfl)
              refine pure_ (i := 20) (N := some 32) (v := undef) (a' := ?_) impl_MapOK.m21 rfl rfl (any_of HT_.out (by kernel_rfl)) (fun _ _ _ h => h) (Or.inr ⟨by rfl, rfl⟩) ?_ ?_; rotate_left; (focus simp only [pt, i64_w, i32_w]; rfl)
              refine pure_ (i := 21) (N := some 33) (v := undef) (a' := ?_) impl_MapOK.m22 rfl rfl (any_of HT_.out (by kernel_rfl)) (fun _ _ _ h => h) (Or.inr ⟨by rfl, rfl⟩) ?_ ?_; rotate_left; (focus simp only [pt, i64_w, i32_w]; rfl)
              refine pure_ (i := 22) (N := some 34) (v := undef) (a' := ?_) impl_MapOK.m23 rfl rfl (any_of HT_.out (by kernel_rfl)) (fun _ _ _ h => h) (Or.inr ⟨by rfl, rfl⟩) ?_ ?_; rotate_left; (focus simp only [pt, i64_w, i32_w]; rfl)
              refine pure_ (i := 23) (N := some 35) (v := undef) (a' := ?_) impl_MapOK.m24 rfl rfl (any_of HT_.out (by kernel_rfl)) (fun _ _ _ h => h) (Or.inr ⟨by rfl, rfl⟩) ?_ ?_; rotate_left; (focus simp only [pt, i64_w, i32_w]; rfl)
              refine pure_ (i := 24) (N := some 36) (v := ?_) (a' := ?_) impl_MapOK.m25 rfl rfl (any_of HT_.out (by kernel_rfl)) (fun _ _ _ h => h) (Or.inl ⟨by rfl, ?_⟩) ?_ ?_; rotate_left; (focus intro w'; go_simp; with_reducible rfl); rotate_left; (focus simp only [pt, i64_w, i32_w]; rfl)
              refine done_ (done_of HT_.out (by kernel_rfl)) ?_
              try go_wp2
              go_ret
              exact ⟨rE, bW⟩
          · rw [if_neg c4] at H
            exact absurd H (by simp)
        · rw [if_neg c3] at H
          exact absurd H (by simp)
      · rw [if_neg c2] at H
        have c2b0 : decide (x7_1 < (l0.length : Int)) = false := decide_eq_false c2
        clear c2
        obtain rfl := Option.some.inj H
        go_wp2
        go_ret
        exact ⟨rE, bW⟩
end Go.Proofs.Ytblejbgkcgajgaa.Q
end

section
namespace Go.Proofs.Ytblejbgkcgajgaa.Q
open Go.RowKit Go.Proofs.YtblejbgkcgajgaaW.PrintWords Go.Proofs.YtblejbgkcgajgaaW.PrintLast
theorem isValue_f (n : Int) : impl_isValue.f n = some (inB n (-1000000) 1000000) := by
  unfold impl_isValue.f impl_within.f inB
  by_cases h : (-1000000 : Int) ≤ n <;> simp [h]
theorem mapOK_l0 (l : List S55) (hlen : l.length ≤ 4611686018427387904) (d : Nat) : ∀ i : Nat, i + d = l.length → (∀ j, j < i → entAt l j = true) → Ev (fun k => impl_MapOK.l0 k l l (l.length : Int) (i : Int)) (mapB l) := by
  induction d with
  | zero =>
    intro i hi hp
    have e : mapB l = decide ((l.length : Int) ≤ 12) := by
      unfold mapB
      rw [allR_true (fun j hj => hp j (by omega)), Bool.and_true]
      by_cases h : l.length ≤ 12
      · rw [decide_eq_true h, decide_eq_true (by omega)]
      · rw [decide_eq_false h, decide_eq_false (by omega)]
    rw [e]
    exact Ev.step (f := fun _ => some (decide ((l.length : Int) ≤ 12))) (fun k => by simp only [impl_MapOK.l0]; rw [if_neg (by omega)]) (Ev.now _)
  | succ d ih =>
    intro i hi hp
    have hw : wrap64 ((i : Int) + 1) = ((i + 1 : Nat) : Int) := by unfold wrap64; omega
    have hbad : entAt l i = false → mapB l = false := fun h => by
      unfold mapB
      rw [allR_false (j := i) (by omega) h, Bool.and_false]
    have hgo : entAt l i = true → Ev (fun k => impl_MapOK.l0 k l l (l.length : Int) ((i + 1 : Nat) : Int)) (mapB l) := fun h => ih (i + 1) (by omega) (fun j hj => by
      by_cases e : j = i
      · rw [e]; exact h
      · exact hp j (by omega))
    have E : entAt l i = (nameB (rd_T55 l (i : Int)).f0 && inB (rd_T55 l (i : Int)).f1 (-1000000) 1000000 && (i == 0 || sblt (rd_T55 l ((i : Int) - 1)).f0 (rd_T55 l (i : Int)).f0)) := rfl
    have c1 : (i : Int) < (l.length : Int) := by omega
    have c2 : (0 : Int) ≤ (i : Int) := by omega
    cases hN : nameB (rd_T55 l (i : Int)).f0 with
    | false =>
      rw [hbad (by rw [E, hN]; rfl)]
      refine Ev.step (f := fun _ => some false) (fun k => ?_) (Ev.now _)
      simp only [impl_MapOK.l0, impl_NameOK.f, hN, if_pos c1, if_pos c2, Option.bind_some, Bool.false_eq_true, if_false]
    | true =>
      cases hV : inB (rd_T55 l (i : Int)).f1 (-1000000) 1000000 with
      | false =>
        rw [hbad (by rw [E, hN, hV]; rfl)]
        refine Ev.step (f := fun _ => some false) (fun k => ?_) (Ev.now _)
        simp only [impl_MapOK.l0, impl_NameOK.f, isValue_f, hN, hV, if_pos c1, if_pos c2, Option.bind_some, Bool.false_eq_true, if_false, if_true]
      | true =>
        by_cases hz : i = 0
        · have hg := hgo (by rw [E, hN, hV]; simp [hz])
          refine Ev.step (fun k => ?_) hg
          have c3 : ¬ ((i : Int) > 0) := by omega
          simp only [impl_MapOK.l0, impl_NameOK.f, isValue_f, hN, hV, if_pos c1, if_pos c2, if_neg c3, Option.bind_some, if_true, hw]
        · have c3 : (i : Int) > 0 := by omega
          have hw2 : wrap64 ((i : Int) - 1) = (i : Int) - 1 := by unfold wrap64; omega
          have c4 : (0 : Int) ≤ (i : Int) - 1 := by omega
          have c5 : (i : Int) - 1 < (l.length : Int) := by omega
          have z : (i == 0) = false := by simp [hz]
          cases hS : sblt (rd_T55 l ((i : Int) - 1)).f0 (rd_T55 l (i : Int)).f0 with
          | false =>
            rw [hbad (by rw [E, hN, hV, hS, z]; rfl)]
            have hS1 : Op.bytesLess (rd_T55 l ((i : Int) - 1)).f0.toList (rd_T55 l (i : Int)).f0.toList = false := hS
            refine Ev.step (f := fun _ => some false) (fun k => ?_) (Ev.now _)
            simp only [impl_MapOK.l0, impl_NameOK.f, isValue_f, hN, hV, hS1, hw2, if_pos c1, if_pos c2, if_pos c3, if_pos c4, if_pos c5, Option.bind_some, if_true, Bool.false_eq_true, if_false]
          | true =>
            have hg := hgo (by rw [E, hN, hV, hS]; simp)
            have hS1 : Op.bytesLess (rd_T55 l ((i : Int) - 1)).f0.toList (rd_T55 l (i : Int)).f0.toList = true := hS
            refine Ev.step (fun k => ?_) hg
            simp only [impl_MapOK.l0, impl_NameOK.f, isValue_f, hN, hV, hS1, hw2, if_pos c1, if_pos c2, if_pos c3, if_pos c4, if_pos c5, Option.bind_some, if_true, hw]
theorem mapOK_ev (l : List S55) (hlen : l.length ≤ 4611686018427387904) : Ev (fun k => impl_MapOK.f k l) (mapB l) := mapOK_l0 l hlen l.length 0 (by omega) (fun j hj => absurd hj (Nat.not_lt_zero _))
end Go.Proofs.Ytblejbgkcgajgaa.Q
end

section
namespace Go.Proofs.Ytblejbgkcgajgaa.Q
open Go.RowKit Go.Proofs.YtblejbgkcgajgaaW.PrintWords Go.Proofs.YtblejbgkcgajgaaW.PrintLast Go.Proofs.YtblejbgkcgajgaaW.PrintMore
attribute [local go_sem] max2_int min2_int max_two min_two max_three min_three max_four min_four   -- for this text's walks alone
set_option linter.unusedVariables false
set_option linter.unusedSimpArgs false
attribute [local go_sem] bin_leq bin_gtr bin_geq
def areAllMap_MapOK.f (l0 : List (List (S55))) : Option (Bool) := if l0.all (fun x => decide (x.length ≤ 1048576)) then some (l0.all mapB) else none
theorem areAllMap_MapOK.calls (A0 : Option Addr) (c0 : Nat) (l0 : List (List (S55))) (r : Bool) (w : World) (hr0 : Kd.C (Kd.slice 55 k55) w A0 l0.length l0) (hc0 : l0.length ≤ c0) (h : areAllMap_MapOK.f l0 = some r) :
    Calls Try.prog 56 #[.slice A0 l0.length c0, .func (.func 51) #[] #[]] w fun e w' => e = .returned (.bool r) ∧ Below w.heap.size w w' := by
  unfold areAllMap_MapOK.f at h
  by_cases h0 : (l0.all (fun x => decide (x.length ≤ 1048576))) = true
  · rw [if_pos h0] at h
    obtain rfl := Option.some.inj h
    refine allF_Map 51 #[] (enters_ Try.func51 (by kernel_rfl) rfl) _ A0 c0 l0 w hr0 hc0 ?_
    intro W x A5 c5 hW hx hl5 hi5
    have hf := List.all_eq_true.mp h0 x hx
    rw [decide_eq_true_eq] at hf
    obtain ⟨K, hK⟩ := mapOK_ev x (by omega)
    exact impl_MapOK.calls K A5 c5 x _ W hi5 hl5 (hK K (Nat.le_refl _))
  · rw [if_neg h0] at h
    cases h
end Go.Proofs.Ytblejbgkcgajgaa.Q
end

section
namespace Go.Proofs.Ytblejbgkcgajgaa.Q
open Go.RowKit Go.Proofs.YtblejbgkcgajgaaW.PrintWords Go.Proofs.YtblejbgkcgajgaaW.PrintLast Go.Proofs.YtblejbgkcgajgaaW.PrintMore
attribute [local go_sem] max2_int min2_int max_two min_two max_three min_three max_four min_four   -- for this text's walks alone
set_option linter.unusedVariables false
set_option linter.unusedSimpArgs false
attribute [local go_sem] bin_leq bin_gtr bin_geq
def impl_areMaps.f (l0 : List (List (S55))) : Option (Int) := (areAllMap_isList.f l0).bind fun t167 => (if t167 = true then ((areAllMap_MapOK.f l0).bind fun t168 => (if t168 = true then (some 0) else (some 1))) else (some 2))
set_option maxHeartbeats 8000000 in
set_option maxRecDepth 100000 in
theorem impl_areMaps.calls (A0 : Option Addr) (c0 : Nat) (l0 : List (List (S55))) (r : Int) (w : World) (hr0 : Kd.C (Kd.slice 55 k55) w A0 l0.length l0) (hc0 : l0.length ≤ c0) (h : impl_areMaps.f l0 = some r) :
    Calls Try.prog 36 #[.slice A0 l0.length c0] w fun e w' => e = .returned (.int .i64 r) ∧ Below w.heap.size w w' := by
  have HR0 := Aside0.mk hr0
  have HC0 := Aside0.mk hc0
  clear hr0 hc0
  have HB := Aside0.mk (Below.refl w.heap.size w)
  have H : ((areAllMap_isList.f l0).bind fun t167 => (if t167 = true then ((areAllMap_MapOK.f l0).bind fun t168 => (if t168 = true then (some 0) else (some 1))) else (some 2))) = some r := h
  clear h
  replace H := Option.bind_eq_some_iff.mp H
  obtain ⟨t167, A20, H⟩ := H
  replace H : (if t167 = true then ((areAllMap_MapOK.f l0).bind fun t168 => (if t168 = true then (some 0) else (some 1))) else (some 2)) = some r := H
  have A2 := Aside0.mk A20
  clear A20
  by_cases c3 : t167 = true
  · subst c3
    have H1 : ((areAllMap_MapOK.f l0).bind fun t168 => (if t168 = true then (some 0) else (some 1))) = some r := by rw [if_pos rfl] at H; exact H
    clear H
    have H := H1
    clear H1
    replace H := Option.bind_eq_some_iff.mp H
    obtain ⟨t168, A40, H⟩ := H
    replace H : (if t168 = true then (some 0) else (some 1)) = some r := H
    have A4 := Aside0.mk A40
    clear A40
    by_cases c5 : t168 = true
    · subst c5
      have H1 : (some 0) = some r := by rw [if_pos rfl] at H; exact H
      clear H
      have H := H1
      clear H1
      obtain rfl := Option.some.inj H
      go_enter Try.func36, Try.ntmps36
      go_wp2_with (first | ((with_reducible refine gate_callee (f := 56) rfl ?_); refine goesL_ (some 5) rfl rfl Try.func56 (by kernel_rfl) rfl #[.slice A0 l0.length c0, .func (.func 49) #[] #[]] rfl gA ?_; (with_reducible refine (areAllMap_isList.calls _ _ l0 true _ ?side1 ?side2 A2.out).mono ?_); (case side1 => exact cN HR0); (case side2 => exact HC0.out); rintro e w6 ⟨rfl, hb⟩; refine ⟨_, rfl, ?_⟩; have n0_ := Aside0.mk (below_step (w := w) bW hb); clear HB; have HB := n0_; clear n0_; (try clear hb); (try clear hb2); (try clear hk); (try clear hi)) | ((with_reducible refine gate_callee (f := 56) rfl ?_); refine goesL_ (some 9) rfl rfl Try.func56 (by kernel_rfl) rfl #[.slice A0 l0.length c0, .func (.func 51) #[] #[]] rfl gA ?_; (with_reducible refine (areAllMap_MapOK.calls _ _ l0 true _ ?side1 ?side2 A4.out).mono ?_); (case side1 => exact cB HR0); (case side2 => exact HC0.out); rintro e w7 ⟨rfl, hb⟩; refine ⟨_, rfl, ?_⟩; have n0_ := Aside0.mk (below_step (w := w) bW hb); clear HB; have HB := n0_; clear n0_; (try clear hb); (try clear hb2); (try clear hk); (try clear hi)))
      go_ret
      exact ⟨rE, bW⟩
    · replace c5 := Bool.eq_false_iff.mpr c5
      subst c5
      have H1 : (some 1) = some r := by rw [if_neg (show ¬ (false = true) by decide)] at H; exact H
      clear H
      have H := H1
      clear H1
      obtain rfl := Option.some.inj H
      go_enter Try.func36, Try.ntmps36
      go_wp2_with (first | ((with_reducible refine gate_callee (f := 56) rfl ?_); refine goesL_ (some 5) rfl rfl Try.func56 (by kernel_rfl) rfl #[.slice A0 l0.length c0, .func (.func 49) #[] #[]] rfl gA ?_; (with_reducible refine (areAllMap_isList.calls _ _ l0 true _ ?side1 ?side2 A2.out).mono ?_); (case side1 => exact cN HR0); (case side2 => exact HC0.out); rintro e w8 ⟨rfl, hb⟩; refine ⟨_, rfl, ?_⟩; have n0_ := Aside0.mk (below_step (w := w) bW hb); clear HB; have HB := n0_; clear n0_; (try clear hb); (try clear hb2); (try clear hk); (try clear hi)) | ((with_reducible refine gate_callee (f := 56) rfl ?_); refine goesL_ (some 9) rfl rfl Try.func56 (by kernel_rfl) rfl #[.slice A0 l0.length c0, .func (.func 51) #[] #[]] rfl gA ?_; (with_reducible refine (areAllMap_MapOK.calls _ _ l0 false _ ?side1 ?side2 A4.out).mono ?_); (case side1 => exact cB HR0); (case side2 => exact HC0.out); rintro e w9 ⟨rfl, hb⟩; refine ⟨_, rfl, ?_⟩; have n0_ := Aside0.mk (below_step (w := w) bW hb); clear HB; have HB := n0_; clear n0_; (try clear hb); (try clear hb2); (try clear hk); (try clear hi)))
      go_ret
      exact ⟨rE, bW⟩
  · replace c3 := Bool.eq_false_iff.mpr c3
    subst c3
    have H1 : (some 2) = some r := by rw [if_neg (show ¬ (false = true) by decide)] at H; exact H
    clear H
    have H := H1
    clear H1
    obtain rfl := Option.some.inj H
    go_enter Try.func36, Try.ntmps36
    go_wp2_with (first | ((with_reducible refine gate_callee (f := 56) rfl ?_); refine goesL_ (some 5) rfl rfl Try.func56 (by kernel_rfl) rfl #[.slice A0 l0.length c0, .func (.func 49) #[] #[]] rfl gA ?_; (with_reducible refine (areAllMap_isList.calls _ _ l0 false _ ?side1 ?side2 A2.out).mono ?_); (case side1 => exact cN HR0); (case side2 => exact HC0.out); rintro e w10 ⟨rfl, hb⟩; refine ⟨_, rfl, ?_⟩; have n0_ := Aside0.mk (below_step (w := w) bW hb); clear HB; have HB := n0_; clear n0_; (try clear hb); (try clear hb2); (try clear hk); (try clear hi)))
    go_ret
    exact ⟨rE, bW⟩
end Go.Proofs.Ytblejbgkcgajgaa.Q
end

section
namespace Go.Proofs.Ytblejbgkcgajgaa.Q
open Go.RowKit Go.Proofs.YtblejbgkcgajgaaW.PrintWords Go.Proofs.YtblejbgkcgajgaaW.PrintLast Go.Proofs.YtblejbgkcgajgaaW.PrintMore
attribute [local go_sem] max2_int min2_int max_two min_two max_three min_three max_four min_four   -- for this text's walks alone
set_option linter.unusedVariables false
set_option linter.unusedSimpArgs false
attribute [local go_sem] bin_leq bin_gtr bin_geq
theorem eqnil_ {P : Program} (w : World) (t e : TypeId) (a : Option Addr) (n c : Nat) (h : P.underlying t = some (.slice e)) : (binOp .eql t (.slice a n c) (.slice none 0 0)).run P w = .ok (.bool a.isNone) w := Lib.run_eql_slice_nil w t e a n c 0 0 h
end Go.Proofs.Ytblejbgkcgajgaa.Q
end

section
namespace Go.Proofs.Ytblejbgkcgajgaa.Q
open Go.RowKit Go.Proofs.YtblejbgkcgajgaaW.PrintWords Go.Proofs.YtblejbgkcgajgaaW.PrintLast Go.Proofs.YtblejbgkcgajgaaW.PrintMore
attribute [local go_sem] max2_int min2_int max_two min_two max_three min_three max_four min_four   -- for this text's walks alone
set_option linter.unusedVariables false
set_option linter.unusedSimpArgs false
attribute [local go_sem] bin_leq bin_gtr bin_geq
def impl_Entry_67.f (l0 : List (S55)) : Option ((List (S55))) := if l0.length < 5864062014805 then some l0 else none
set_option maxHeartbeats 8000000 in
set_option maxRecDepth 100000 in
theorem impl_Entry_67.calls (A0 : Option Addr) (c0 : Nat) (l0 : List (S55)) (r : List (S55)) (w : World) (hr0 : Kd.C k55 w A0 l0.length l0) (hc0 : l0.length ≤ c0) (h : impl_Entry_67.f l0 = some r) :
    Calls Try.prog 67 #[.slice A0 l0.length c0] w fun e w' => ∃ v0_ : Value, e = .returned (v0_) ∧ Kd.R k55 55 w' w.heap.size (fun _ => True) v0_ r ∧ Below w.heap.size w w' := by
  by_cases c5 : l0.length < 5864062014805
  · unfold impl_Entry_67.f at h
    rw [if_pos c5] at h
    obtain rfl := Option.some.inj h
    clear h
    cases A0 with
    | none =>
      have hz : l0 = [] := by
        rcases Nat.eq_zero_or_pos l0.length with h0 | h0
        · exact List.eq_nil_of_length_eq_zero h0
        · obtain ⟨ad, e, _⟩ := hr0.2.2 h0
          cases e
      subst hz
      clear hr0 c5
      have hq := fun w : World => eqnil_ (P := Try.prog) w 27 55 none 0 c0 Try.underlying27
      go_enter Try.func67, Try.ntmps67
      go_wp2
      go_ret
      exact ⟨_, rfl, Kd.R_nil _ _ _ _ _, Below.refl _ _⟩
    | some ad =>
      have HR0 := Aside0.mk hr0
      have HC0 := Aside0.mk hc0
      have LM := Aside0.mk c5
      clear hr0 hc0 c5
      have HB := Aside0.mk (Below.refl w.heap.size w)
      have hq := fun w : World => eqnil_ (P := Try.prog) w 27 55 (some ad) l0.length c0 Try.underlying27
      go_enter Try.func67, Try.ntmps67
      go_wp2_with (first | ((with_reducible refine gate_dst (N := 5) rfl ?_); refine Kd.R_lit k55 _ 55 ?hg (N := 5) ?hd (xs := ([] : List (S55))) (inner := []) (ok := fun _ => True) (okp := fun _ => True) ?hr ?hp (fun _ hk => hk) trivial (Below.refl _ _) (Nat.le_refl _) (by simp) ?_; (case hd => rfl); (case hg => rfl); (case hr => first | (go_simp; done) | (go_simp; rfl)); (case hp => exact (Reps.none _ _)); intro v881 w11 ho12 hb hg_ hnew_; clear hg_ hnew_; have n0_ := Aside0.mk (Kd.R_lower ho12 (below_size HB.out)); have n1_ := Aside0.mk (below_step HB.out hb); clear HB; have HO882 := n0_; have HB := n1_; clear n0_ n1_; clear hb ho12) | ((with_reducible refine gate_builtin (b := .append) (xs := #[.tmp 5, .tmp 6]) rfl ?_); at_builtin; refine Kd.R_append_rows k55 (w0 := w) w.heap.size rfl (.tmp 5) (.tmp 6) 27 55 (.agg #[(.string ⟨#[]⟩), (.int .i64 0)]) 24 rfl Try.underlying27 info55 rfl (by decide) (by omega) v881 [] l0 _ _ _ (fun _ => True) (fun _ => False) rfl rfl ?aO ?aR (fun _ _ h => h) (fun _ h => h.elim) ?aF ?aB ?aS ?aL ?_; (case aR => exact (Kd.C_below HR0.out HB.out)); (case aB => exact HB.out); (case aF => exact (fun _ _ => trivial)); (case aO => exact HO882.out); (case aS => exact (below_size HB.out)); (case aL => have := LM.out; simp only [List.length_nil]; omega); intro v884 w13 ho hb hg hat; rw [List.nil_append] at ho; have n0_ := Aside0.mk (hb); have n1_ := Aside0.mk (ho); clear HB; clear HO882; have HB := n0_; have HO885 := n1_; clear n0_ n1_; clear ho hb hg hat))
      go_ret
      exact ⟨_, rfl, HO885.out, HB.out⟩
  · unfold impl_Entry_67.f at h
    rw [if_neg c5] at h
    cases h
end Go.Proofs.Ytblejbgkcgajgaa.Q
end

section
namespace Go.Proofs.Ytblejbgkcgajgaa.Q
open Go.RowKit Go.Proofs.YtblejbgkcgajgaaW.PrintWords Go.Proofs.YtblejbgkcgajgaaW.PrintLast Go.Proofs.YtblejbgkcgajgaaW.PrintMore
attribute [local go_sem] max2_int min2_int max_two min_two max_three min_three max_four min_four   -- for this text's walks alone
set_option linter.unusedVariables false
set_option linter.unusedSimpArgs false
attribute [local go_sem] bin_leq bin_gtr bin_geq
def impl_Entry_68.f (l0 : List S55) (a1 a2 : Int) : Option (List S55) := if 0 ≤ a1 then (if a2 = a1 + 1 then (if a1 < (l0.length : Int) then some (l0.take a1.toNat ++ l0.drop (a1.toNat + 1)) else none) else none) else none
set_option maxHeartbeats 8000000 in
set_option maxRecDepth 100000 in
theorem impl_Entry_68.calls (P0_ : Nat → Prop) (u9000_ : Value) (l0 : List (S55)) (a1 : Int) (a2 : Int) (r : List (S55)) (w0 w : World) (hB : Below w0.heap.size w0 w) (ho0 : Kd.R k55 55 w w0.heap.size P0_ u9000_ l0) (h : impl_Entry_68.f l0 a1 a2 = some r) :
    Calls Try.prog 68 #[u9000_, .int .i64 a1, .int .i64 a2] w fun e w' => ∃ v0_ : Value, e = .returned (v0_) ∧ Kd.R k55 55 w' w0.heap.size (fun k_ => (P0_ k_ ∨ w.heap.size ≤ k_)) v0_ r ∧ Below w0.heap.size w0 w' ∧ Kept w w' (fun k_ => P0_ k_) := by
  unfold impl_Entry_68.f at h
  by_cases h0 : 0 ≤ a1
  case neg => rw [if_neg h0] at h; cases h
  rw [if_pos h0] at h
  by_cases h1 : a2 = a1 + 1
  case neg => rw [if_neg h1] at h; cases h
  rw [if_pos h1] at h
  by_cases h2 : a1 < (l0.length : Int)
  case neg => rw [if_neg h2] at h; cases h
  rw [if_pos h2] at h
  obtain rfl := Option.some.inj h
  clear h
  obtain ⟨i, rfl⟩ : ∃ i : Nat, a1 = (i : Int) := ⟨a1.toNat, by omega⟩
  obtain ⟨j, rfl⟩ : ∃ j : Nat, a2 = (j : Int) := ⟨a2.toNat, by omega⟩
  have hj0 : j = i + 1 := by omega
  rw [Int.toNat_natCast]
  obtain ⟨n, hn0⟩ : ∃ n, n = l0.length := ⟨_, rfl⟩
  obtain ⟨g, cap, cur, rfl, hbg, hok, hg, hn, hm, hs, ht⟩ := flatR_open (enc := encE) entM encE_len rfl ho0 (by omega)
  clear ho0 h0 h1
  rw [← hn0] at hn ht h2 ⊢
  have hin : i < n := by omega
  clear h2
  unfold maxLen at hm
  obtain ⟨news, hnews⟩ : ∃ news, news = (l0.drop j).flatMap encE := ⟨_, rfl⟩
  have hlen : news.length = (n - j) * 2 := by rw [hnews, flat_len encE_len, List.length_drop, hn0]
  have hcell : ∀ q v, cur[q]? = some v → w.cell? ⟨g, q, none⟩ = some v := fun q v hq => (blk_cell hg q).trans hq
  have hnew : ∀ t u, news[t]? = some u → cur[j * 2 + t]? = some u := by
    intro t u hu
    have htl : t < (n - j) * 2 := by
      have := (List.getElem?_eq_some_iff.1 hu).1
      rwa [hlen] at this
    rw [hnews, ← flat_drop encE_len, List.getElem?_drop, ← ht, List.getElem?_take, if_pos (by omega)] at hu
    simpa using hu
  obtain ⟨A, hA, hsrc⟩ : ∃ A : Addr, (if cap = j then some (⟨g, 0, none⟩ : Addr) else some ⟨g, j * 2, none⟩) = some A ∧ Hid (∀ t u, news[t]? = some u → w.drew.cell? (A.add t) = some u) := by
    by_cases h : cap = j
    · refine ⟨⟨g, 0, none⟩, by simp [h], fun t u hu => ?_⟩
      have h0 : news.length = 0 := by rw [hlen]; omega
      rw [List.length_eq_zero_iff.1 h0] at hu
      simp at hu
    · refine ⟨⟨g, j * 2, none⟩, by simp [h], fun t u hu => ?_⟩
      rw [Addr.add_lit]
      exact hcell _ _ (hnew t u hu)
  have hcs : cur.size = cap * 2 := hs
  have s1 : Hid (news.length = (n - j) * 2) := hlen
  have s2 : Hid (∀ u ∈ news, u.oneCell' = true) := by
    rw [hnews]
    exact one_flat _
  have s3 : Hid (∀ t, t < news.length → (w.drew.cell? ⟨g, 0 + i * 2 + t, none⟩).isSome = true ∧ w.drew.frozen? ⟨g, 0 + i * 2 + t, none⟩ = false) := by
    intro t htl
    rw [hlen] at htl
    have hb : 0 + i * 2 + t < cur.size := by rw [hcs]; omega
    refine ⟨?_, blk_frozen (w := w.drew) hg _⟩
    show (w.cell? _).isSome = true
    rw [hcell _ _ (Array.getElem?_eq_getElem hb)]
    rfl
  obtain ⟨cur1, hcur1⟩ : ∃ cur1 : Array Value, cur1 = (cur.toList.take (0 + i * 2) ++ news ++ cur.toList.drop (0 + i * 2 + news.length)).toArray := ⟨_, rfl⟩
  have hc1s : cur1.size = cap * 2 := by
    rw [hcur1]
    simp [hlen, hcs]
    omega
  obtain ⟨W1, hW1⟩ : ∃ W1, W1 = w.drew.setCells g (0 + i * 2) news := ⟨_, rfl⟩
  have hW1' : W1 = w.drew.setRow g cur1 := by
    rw [hW1, hcur1]
    exact setCells_setRow g (0 + i * 2) _ news cur w.drew hg (by rw [hlen, hcs]; omega)
  have hg1 : W1.heap[g]? = some (.cells cur1 55 (0, 0)) := by
    rw [hW1']
    exact setRow_heap w.drew g cur cur1 _ _ hg
  obtain ⟨zs, hzs⟩ : ∃ zs, zs = (Builtin.zeroCells (Value.agg #[.string ⟨#[]⟩, .int .i64 0]).cells (n - (i + (n - j)))).toList := ⟨_, rfl⟩
  have hn1 : n - (i + (n - j)) = 1 := by omega
  have hz2 : zs = [.string ⟨#[]⟩, .int .i64 0] := by rw [hzs, hn1, zc1]
  have hzl : zs.length = 2 := by rw [hz2]; rfl
  have hcl : ∀ ty, (Builtin.clear_ #[27] ty #[.slice (some ⟨g, (i + (n - j)) * 2, none⟩) (n - (i + (n - j))) (cap - (i + (n - j)))]).run Try.prog W1 = .ok (.tuple #[]) (W1.setRow g (cur1.toList.take ((i + (n - j)) * 2) ++ zs ++ cur1.toList.drop ((i + (n - j)) * 2 + zs.length)).toArray) := fun ty => by
    have h := run_clear_rowk (P := Try.prog) W1 27 55 ty (.agg #[.string ⟨#[]⟩, .int .i64 0]) (n - (i + (n - j))) Try.underlying27 Try.zeroValue55 (by rw [← hzs, hz2]; intro u hu; simp at hu; rcases hu with rfl | rfl <;> rfl) g ((i + (n - j)) * 2) (cap - (i + (n - j))) cur1 55 (by omega) hg1 (by rw [← hzs, hzl, hc1s]; omega)
    rw [← hzs] at h
    exact h
  obtain ⟨i0, hi0, hzz⟩ := Option.map_eq_some_iff.1 info55
  simp only [Prod.mk.injEq] at hzz
  obtain ⟨_, hz1, _⟩ := hzz
  have hout : (cur1.toList.take ((i + (n - j)) * 2) ++ zs ++ cur1.toList.drop ((i + (n - j)) * 2 + zs.length)).toArray.toList.take ((i + (n - j)) * 2) = (l0.take i ++ l0.drop (i + 1)).flatMap encE := by
    have e1 : (cur.toList.take (i * 2)) = (l0.take i).flatMap encE := by
      rw [← flat_take encE_len, ← ht, List.take_take, Nat.min_eq_left (by omega)]
    have e2 : ((l0.take i).flatMap encE).length = i * 2 := by rw [flat_len encE_len, List.length_take]; omega
    rw [List.toList_toArray, List.append_assoc, List.take_append_of_le_length (by rw [List.length_take, Array.length_toList, hc1s]; omega), List.take_take, Nat.min_self, hcur1, List.toList_toArray, Nat.zero_add, e1, List.take_append_of_le_length (by rw [List.length_append, e2, hlen]; omega), List.take_of_length_le (by rw [List.length_append, e2, hlen]; omega), List.flatMap_append, hnews, hj0]
  have X := Aside0.mk hW1'
  have hW : Hid (W1 = w.drew.setCells g (0 + i * 2) news) := hW1
  have HG1 := Aside0.mk hg1
  have HOUT := Aside0.mk hout
  have HB := Aside0.mk hB
  have HN0 := Aside0.mk hn0
  have HC1 := Aside0.mk hc1s
  have hij : i ≤ j := by omega
  have hne : ¬ (i = j) := by omega
  have hjn : j ≤ n := by omega
  have hic : i ≤ cap := by omega
  have hjc : j ≤ cap := by omega
  have hcn : ¬ (cap = i + (n - j)) := by omega
  have hln : i + (n - j) ≤ n := by omega
  have hlc : i + (n - j) ≤ cap := by omega
  have HJ := Aside0.mk hj0
  have HL := Aside0.mk hzl
  clear hz2 hW1 hW1' hg1 hg hcell hnew hnews hlen hcs hs ht hcur1 hc1s hzs hn1 hzl hout hB hn0 hj0
  go_enter Try.func68, Try.ntmps68
  go_wp2_with fail
  go_region_law (refine step_append_room rfl (.tmp 22) (.tmp 25) 27 rfl 55 i0 2 Try.underlying27 hi0 hz1 g 0 i cap (by simp [Act.eval, Act.put]) A (n - j) (cap - j) news (by simp [Act.eval, Act.put]) s1.out hsrc.out s2.out (by omega) s3.out ?_; rw [← hW.out])
  go_wp2
  go_ret
  refine ⟨_, rfl, ?_, ?_, ?_⟩
  · refine flatR_mk entM encE_len rfl ?_ hbg (.inl hok) (setRow_heap W1 g cur1 _ _ _ HG1.out) (by omega) (by unfold maxLen; omega) ?_ (by have h_ := HOUT.out; simp only [List.append_assoc, List.toList_toArray] at h_ ⊢; exact h_)
    · have h1 := HN0.out
      have h2 := HJ.out
      rw [List.length_append, List.length_take, List.length_drop]
      omega
    · have h1 := HC1.out
      have h2 := HL.out
      simp only [List.size_toArray, List.length_append, List.length_take, List.length_drop, Array.length_toList]
      omega
  · rw [X.out]
    exact below_setRow (below_setRow (below_drew HB.out) hbg _) hbg _
  · rw [X.out]
    exact kept_setRow (kept_setRow (Kept.drew (Kept.refl w _)) (.inl hok) _) (.inl hok) _
end Go.Proofs.Ytblejbgkcgajgaa.Q
end

section
namespace Go.Proofs.Ytblejbgkcgajgaa.Q
open Go.RowKit Go.Proofs.YtblejbgkcgajgaaW.PrintWords Go.Proofs.YtblejbgkcgajgaaW.PrintLast Go.Proofs.YtblejbgkcgajgaaW.PrintMore
attribute [local go_sem] max2_int min2_int max_two min_two max_three min_three max_four min_four   -- for this text's walks alone
set_option linter.unusedVariables false
set_option linter.unusedSimpArgs false
attribute [local go_sem] bin_leq bin_gtr bin_geq
def impl_Entry_69.f (l0 : List S55) (a1 : Int) (l2 : List S55) : Option (List S55) := match l2 with
  | [x] => if 0 ≤ a1 then (if a1 ≤ (l0.length : Int) then (if l0.length < 5000000 then some (l0.take a1.toNat ++ [x] ++ l0.drop a1.toNat) else none) else none) else none
  | _ => none
set_option maxHeartbeats 8000000 in
set_option maxRecDepth 100000 in
theorem impl_Entry_69.atEnd (l0 l2 : List S55) (w0 w : World) (P0_ P2_ : Nat → Prop) (v : Value) (g2 c2 : Nat) (hB : Below w0.heap.size w0 w) (ho0 : Kd.R k55 55 w w0.heap.size P0_ v l0) (hl2 : l2.length = 1) (hC2 : Kd.C k55 w (some ⟨g2, 0, none⟩) 1 l2) (hlen : l0.length < 5000000) :
    Calls Try.prog 69 #[v, .int .i64 (l0.length : Int), .slice (some ⟨g2, 0, none⟩) 1 c2] w fun e w' => ∃ v0_ : Value, e = .returned v0_ ∧ Kd.R k55 55 w' w0.heap.size (fun k_ => (P0_ k_ ∨ P2_ k_ ∨ w.heap.size ≤ k_)) v0_ (l0 ++ l2) ∧ Below w0.heap.size w0 w' ∧ Kept w w' (fun k_ => P0_ k_ ∨ P2_ k_) := by
  have HO := Aside0.mk (Kd.R_mono (ok' := fun k_ => (P0_ k_ ∨ P2_ k_ ∨ w.heap.size ≤ k_)) ho0 (fun k hk => .inl hk))
  have HB := Aside0.mk hB
  have H1 := Aside0.mk ho0.1
  have HC := Aside0.mk hC2
  obtain ⟨A0, c0, rfl⟩ := Kd.R_slice ho0
  have hnc : l0.length ≤ c0 := (Kd.R_reads' ho0).2.1
  obtain ⟨n, hn⟩ : ∃ n, n = l0.length := ⟨_, rfl⟩
  have HN := Aside0.mk hn
  rw [← hn] at HO H1 hnc hlen ⊢
  have hin : (n : Int) ≤ (n : Int) := Int.le_refl _
  have hm0 : ¬ ((1 : Nat) : Int) = 0 := by decide
  clear hB ho0 hC2 hn
  go_enter Try.func69, Try.ntmps69
  go_wp2_with (at_builtin; refine Kd.R_append_rows k55 (w0 := w0) w0.heap.size rfl (.tmp 23) (.tmp 24) 27 55 (.agg #[(.string ⟨#[]⟩), (.int .i64 0)]) 24 rfl Try.underlying27 info55 rfl (by decide) (by omega) (.slice A0 n c0) l0 l2 (some ⟨g2, 0, none⟩) 1 c2 (fun k_ => (P0_ k_ ∨ P2_ k_ ∨ w.heap.size ≤ k_)) (fun _ => False) rfl rfl HO.out HC.out (fun x cs hK => by rw [k55_open hK]; exact k55_mkM _ _ _ x) (fun _ h => h.elim) (fun k hk => .inr (.inr hk)) HB.out (below_size HB.out) (by rw [← HN.out]; omega) ?_; intro v1 w1 hr hb hg _; have HR1 := Aside0.mk hr; have HB1 := Aside0.mk hb; have HG1 := Aside0.mk hg; clear hr hb hg)
  all_goals
    go_ret
    refine ⟨_, rfl, HR1.out, HB1.out, ⟨HG1.out.size, fun k hk hn2 => HG1.out.block k hk (fun e => hn2 (.inl (H1.out k e.symm)))⟩⟩
set_option maxHeartbeats 8000000 in
set_option maxRecDepth 100000 in
theorem impl_Entry_69.shift (l0 : List S55) (x : S55) (w0 w : World) (P0_ P2_ : Nat → Prop) (g cap g2 cap2 i n m j k : Nat) (cur cur2 : Array Value) (hB : Below w0.heap.size w0 w) (hbg : w0.heap.size ≤ g) (hok : P0_ g) (hne : g2 ≠ g)
    (hg : w.heap[g]? = some (.cells cur 55 (0, 0))) (hm : cap ≤ maxLen) (hs : cur.size = cap * 2) (ht : cur.toList.take (n * 2) = l0.flatMap encE)
    (hg2 : w.heap[g2]? = some (.cells cur2 55 (0, 0))) (hs2 : cur2.size = cap2 * 2) (hmc : m ≤ cap2) (ht2 : cur2.toList.take (m * 2) = encE x)
    (hn : n = l0.length) (hm1 : m = 1) (hi : i < n) (hnc : n ≤ cap) (hj : j = i + m) (hk : k = n + m) (h50 : n < 5000000) (hroom : k ≤ cap) :
    Calls Try.prog 69 #[.slice (some ⟨g, 0, none⟩) n cap, .int .i64 (i : Int), .slice (some ⟨g2, 0, none⟩) m cap2] w fun e w' => ∃ v0_ : Value, e = .returned v0_ ∧ Kd.R k55 55 w' w0.heap.size (fun k_ => (P0_ k_ ∨ P2_ k_ ∨ w.heap.size ≤ k_)) v0_ (l0.take i ++ [x] ++ l0.drop i) ∧ Below w0.heap.size w0 w' ∧ Kept w w' (fun k_ => P0_ k_ ∨ P2_ k_) := by
  unfold maxLen at hm
  obtain ⟨i0, hi0, hzz⟩ := Option.map_eq_some_iff.1 info55
  simp only [Prod.mk.injEq] at hzz
  obtain ⟨hz0, hz1, hzb⟩ := hzz
  have hsz : (Try.prog.info? 55).map (·.size) = some 2 := by rw [hi0]; simp [hz1]
  have hso : ∀ w, (Go.sizeOf 55).run Try.prog w = .ok 2 w := fun w => by simp [Go.sizeOf, typeInfo, hi0, hz1]
  obtain ⟨cs1, hcs1⟩ : ∃ cs1, cs1 = (l0.drop i).flatMap encE := ⟨_, rfl⟩
  have hc1 : cs1.length = (n - i) * 2 := by rw [hcs1, flat_len encE_len, List.length_drop, hn]
  have hsrc : ∀ (t : Nat) (u : Value), cs1[t]? = some u → cur[i * 2 + t]? = some u := by
    intro t u hu
    have htl : t < (n - i) * 2 := by
      have := (List.getElem?_eq_some_iff.1 hu).1
      rwa [hc1] at this
    rw [hcs1, ← flat_drop encE_len, List.getElem?_drop, ← ht, List.getElem?_take, if_pos (by omega)] at hu
    simpa using hu
  have hsrc2 : ∀ (t : Nat) (u : Value), (encE x)[t]? = some u → cur2[t]? = some u := by
    intro t u hu
    have htl : t < 2 := (List.getElem?_eq_some_iff.1 hu).1
    rw [← ht2, List.getElem?_take, if_pos (by omega)] at hu
    simpa using hu
  have one_e : ∀ u ∈ encE x, u.oneCell' = true := by
    intro u hu
    have := one_flat [x] u (by rw [List.flatMap_cons, List.flatMap_nil, List.append_nil]; exact hu)
    exact this
  have hz1' : ¬ ((m : Int) = 0) := by omega
  have hz2 : ¬ ((i : Int) = (n : Int)) := by omega
  have hin : i ≤ n := by omega
  have hic : i ≤ cap := by omega
  have hik : i ≤ k := by omega
  have hjk : j ≤ k := by omega
  have hci : ¬ (cap = i) := by omega
  have hci' : ¬ ((cap : Int) = (i : Int)) := by omega
  have e1 : (cur.toList.take (i * 2)) = (l0.take i).flatMap encE := by
    rw [← flat_take encE_len, ← ht, List.take_take, Nat.min_eq_left (by omega)]
  have e2 : (l0.take i).flatMap encE ++ encE x ++ cs1 = (l0.take i ++ [x] ++ l0.drop i).flatMap encE := by
    rw [hcs1, List.flatMap_append, List.flatMap_append, List.flatMap_cons, List.flatMap_nil, List.append_nil]
  have e3 : (l0.take i ++ [x] ++ l0.drop i).length = k := by
    simp only [List.length_append, List.length_take, List.length_drop, List.length_cons, List.length_nil]
    omega
  have hov : ∀ lb cb, (callFunc 84 #[.slice (some ⟨g2, 0, none⟩) m cap2, .slice (some ⟨g, j * 2, none⟩) lb cb]).run Try.prog w = .ok (.value (.bool false)) w := fun lb cb => by
    rw [run_callFunc_extern Try.func84 (by kernel_rfl) (by kernel_rfl) (by kernel_rfl) (e := Extern.SlicesOverlaps.overlaps #[27, 27] #[4]) (by kernel_rfl),
      Lib.run_overlaps_apart w 27 4 55 Try.underlying27 2 hso ⟨g2, 0, none⟩ ⟨g, j * 2, none⟩ m cap2 lb cb hne 55 55 cur2.size cur.size (by simp [World.shape?, hg2]) (by simp [World.shape?, hg]) (by omega) (blk_frozen hg2 _) (blk_frozen hg2 _)]
    rfl
  obtain ⟨cur1, hcur1⟩ : ∃ cur1 : Array Value, cur1 = (cur.toList.take (j * 2) ++ cs1 ++ cur.toList.drop (j * 2 + cs1.length)).toArray := ⟨_, rfl⟩
  have hc1s : cur1.size = cap * 2 := by
    rw [hcur1]
    simp only [List.size_toArray, List.length_append, List.length_take, List.length_drop, Array.length_toList, hc1, hs]
    omega
  obtain ⟨W1, hW1⟩ : ∃ W1, W1 = w.drew.setRow g cur1 := ⟨_, rfl⟩
  have hg1 : W1.heap[g]? = some (.cells cur1 55 (0, 0)) := by rw [hW1]; exact setRow_heap w.drew g cur cur1 _ _ hg
  have hg21 : W1.heap[g2]? = some (.cells cur2 55 (0, 0)) := by rw [hW1, setRow_other w.drew g g2 cur1 hne]; exact hg2
  have hcp1 : Aside0 (∀ ty, (Builtin.copy_ #[27, 27] ty #[.slice (some ⟨g, j * 2, none⟩) (k - j) (cap - j), .slice (some ⟨g, i * 2, none⟩) (k - i) (cap - i)]).run Try.prog w.drew = .ok (goInt (n - i : Nat)) W1) := Aside0.mk fun ty => by
    rw [hW1, hcur1]
    exact run_copy_rowk w.drew _ _ ty 55 2 g (j * 2) (k - j) (cap - j) ⟨g, i * 2, none⟩ (k - i) (cap - i) (n - i) cur 55 cs1 Try.underlying27 hsz hg (by simp only [Nat.min_def]; split <;> omega) hc1
      (fun t u hu => by rw [Addr.add_lit]; exact (blk_cell (w := w.drew) hg (i * 2 + t)).trans (hsrc t u hu)) (by rw [hc1, hs]; omega) (by rw [hcs1]; exact one_flat _)
  obtain ⟨cur3, hcur3⟩ : ∃ cur3 : Array Value, cur3 = (cur1.toList.take (i * 2) ++ encE x ++ cur1.toList.drop (i * 2 + (encE x).length)).toArray := ⟨_, rfl⟩
  have hcp2 : Aside0 (∀ ty, (Builtin.copy_ #[27, 27] ty #[.slice (some ⟨g, i * 2, none⟩) (k - i) (cap - i), .slice (some ⟨g2, 0, none⟩) m cap2]).run Try.prog W1 = .ok (goInt m) (W1.setRow g cur3)) := Aside0.mk fun ty => by
    rw [hcur3]
    exact run_copy_rowk W1 _ _ ty 55 2 g (i * 2) (k - i) (cap - i) ⟨g2, 0, none⟩ m cap2 m cur1 55 (encE x) Try.underlying27 hsz hg1 (by simp only [Nat.min_def]; split <;> omega) (by rw [hm1]; rfl)
      (fun t u hu => by rw [Addr.add_lit, Nat.zero_add]; exact (blk_cell hg21 t).trans (hsrc2 t u hu)) (by rw [hc1s]; show i * 2 + 2 ≤ _; omega) one_e
  have hout : cur3.toList.take (k * 2) = (l0.take i ++ [x] ++ l0.drop i).flatMap encE := by
    have hb : j * 2 = i * 2 + (encE x).length := by show j * 2 = i * 2 + 2; omega
    have hl : j * 2 + cs1.length ≤ cur.toList.length := by rw [hc1, Array.length_toList, hs]; omega
    rw [hcur3, hcur1, List.toList_toArray, List.toList_toArray, row_shift hb hl, e1, e2, List.take_append_of_le_length (by rw [flat_len encE_len, e3]; omega), List.take_of_length_le (by rw [flat_len encE_len, e3]; omega)]
  have hc3s : cur3.size = cap * 2 := by
    rw [hcur3]
    simp only [List.size_toArray, List.length_append, List.length_take, List.length_drop, Array.length_toList, hc1s, encE, List.length_cons, List.length_nil]
    omega
  have hfin : Kd.R k55 55 (W1.setRow g cur3) w0.heap.size (fun k_ => (P0_ k_ ∨ P2_ k_ ∨ w.heap.size ≤ k_)) (.slice (some ⟨g, 0, none⟩) k cap) (l0.take i ++ [x] ++ l0.drop i) :=
    flatR_mk entM encE_len rfl e3.symm hbg (.inl hok) (setRow_heap W1 g cur1 _ _ _ hg1) hroom (by unfold maxLen; omega) hc3s hout
  have hbel : Below w0.heap.size w0 (W1.setRow g cur3) := by
    rw [hW1]
    exact below_setRow (below_setRow (below_drew hB) hbg _) hbg _
  have hkp : Kept w (W1.setRow g cur3) (fun k_ => P0_ k_ ∨ P2_ k_) := by
    rw [hW1]
    exact kept_setRow (kept_setRow (Kept.drew (Kept.refl w _)) (.inl (.inl hok)) _) (.inl (.inl hok)) _
  have HF := Aside0.mk (And.intro hfin (And.intro hbel hkp))
  have hcj : ¬ (cap = j) := by omega
  have hgt : ¬ ((cap : Int) < (k : Int)) := by omega
  have hkc : k ≤ cap := hroom
  have hj10 : i + m = j ∧ j < 10000000 ∧ n + m = k ∧ k < 10000000 ∧ k = i + (k - i) := by omega
  have hw1 : True → IntKind.i64.wrap ((i : Int) + (m : Int)) = (j : Int) := fun _ => (wI hj10.1 hj10.2.1).1
  have hw1' : True → wrap64 ((i : Int) + (m : Int)) = (j : Int) := fun _ => (wI hj10.1 hj10.2.1).2
  have hw2 : True → IntKind.i64.wrap ((n : Int) + (m : Int)) = (k : Int) := fun _ => (wI hj10.2.2.1 hj10.2.2.2.1).1
  have hw2' : True → wrap64 ((n : Int) + (m : Int)) = (k : Int) := fun _ => (wI hj10.2.2.1 hj10.2.2.2.1).2
  have hw3 : True → IntKind.i64.wrap ((k : Int) - (i : Int)) = ((k - i : Nat) : Int) := fun _ => (wS hj10.2.2.2.2 hj10.2.2.2.1).1
  have hw3' : True → wrap64 ((k : Int) - (i : Int)) = ((k - i : Nat) : Int) := fun _ => (wS hj10.2.2.2.2 hj10.2.2.2.1).2
  clear hj10 h50
  clear hB hg hg2 hg1 hg21 hs hs2 ht ht2 hcs1 hc1 hsrc hsrc2 one_e e1 e2 e3 hcur1 hc1s hW1 hcur3 hout hc3s hfin hbel hkp hok hn hj hk hm1
  go_enter Try.func69, Try.ntmps69
  go_wp2_with (simp only [hov])
  go_region_law (refine step_copy_runI rfl (.tmp 73) (.tmp 76) 27 27 rfl (.slice (some ⟨g, j * 2, none⟩) (k - j) (cap - j)) (.slice (some ⟨g, i * 2, none⟩) (k - i) (cap - i)) (by simp [Act.eval, Act.put]) (by simp [Act.eval, Act.put]) (hcp1.out _) ?_)
  have hcp3 := hcp2.out
  go_wp2
  go_ret
  exact ⟨_, rfl, HF.out.1, HF.out.2.1, HF.out.2.2⟩
set_option maxHeartbeats 8000000 in
set_option maxRecDepth 100000 in
theorem impl_Entry_69.grow (l0 : List S55) (x : S55) (w0 w : World) (P0_ P2_ : Nat → Prop) (g cap g2 cap2 i n m j k : Nat) (cur cur2 : Array Value) (hB : Below w0.heap.size w0 w) (hbg : w0.heap.size ≤ g) (hok : P0_ g) (hne : g2 ≠ g)
    (hg : w.heap[g]? = some (.cells cur 55 (0, 0))) (hm : cap ≤ maxLen) (hs : cur.size = cap * 2) (ht : cur.toList.take (n * 2) = l0.flatMap encE)
    (hg2 : w.heap[g2]? = some (.cells cur2 55 (0, 0))) (hs2 : cur2.size = cap2 * 2) (hmc : m ≤ cap2) (ht2 : cur2.toList.take (m * 2) = encE x)
    (hn : n = l0.length) (hm1 : m = 1) (hi : i < n) (hnc : n ≤ cap) (hj : j = i + m) (hk : k = n + m) (h50 : n < 5000000) (hroom : cap < k) :
    Calls Try.prog 69 #[.slice (some ⟨g, 0, none⟩) n cap, .int .i64 (i : Int), .slice (some ⟨g2, 0, none⟩) m cap2] w fun e w' => ∃ v0_ : Value, e = .returned v0_ ∧ Kd.R k55 55 w' w0.heap.size (fun k_ => (P0_ k_ ∨ P2_ k_ ∨ w.heap.size ≤ k_)) v0_ (l0.take i ++ [x] ++ l0.drop i) ∧ Below w0.heap.size w0 w' ∧ Kept w w' (fun k_ => P0_ k_ ∨ P2_ k_) := by
  unfold maxLen at hm
  obtain ⟨i0, hi0, hzz⟩ := Option.map_eq_some_iff.1 info55
  simp only [Prod.mk.injEq] at hzz
  obtain ⟨hz0, hz1, hzb⟩ := hzz
  have hsz : (Try.prog.info? 55).map (·.size) = some 2 := by rw [hi0]; simp [hz1]
  have hso : ∀ w, (Go.sizeOf 55).run Try.prog w = .ok 2 w := fun w => by simp [Go.sizeOf, typeInfo, hi0, hz1]
  obtain ⟨cs1, hcs1⟩ : ∃ cs1, cs1 = (l0.drop i).flatMap encE := ⟨_, rfl⟩
  have hc1 : cs1.length = (n - i) * 2 := by rw [hcs1, flat_len encE_len, List.length_drop, hn]
  have hsrc : ∀ (t : Nat) (u : Value), cs1[t]? = some u → cur[i * 2 + t]? = some u := by
    intro t u hu
    have htl : t < (n - i) * 2 := by
      have := (List.getElem?_eq_some_iff.1 hu).1
      rwa [hc1] at this
    rw [hcs1, ← flat_drop encE_len, List.getElem?_drop, ← ht, List.getElem?_take, if_pos (by omega)] at hu
    simpa using hu
  have hsrc2 : ∀ (t : Nat) (u : Value), (encE x)[t]? = some u → cur2[t]? = some u := by
    intro t u hu
    have htl : t < 2 := (List.getElem?_eq_some_iff.1 hu).1
    rw [← ht2, List.getElem?_take, if_pos (by omega)] at hu
    simpa using hu
  have one_e : ∀ u ∈ encE x, u.oneCell' = true := by
    intro u hu
    have := one_flat [x] u (by rw [List.flatMap_cons, List.flatMap_nil, List.append_nil]; exact hu)
    exact this
  have hz1' : ¬ ((m : Int) = 0) := by omega
  have hz2 : ¬ ((i : Int) = (n : Int)) := by omega
  have hin : i ≤ n := by omega
  have hic : i ≤ cap := by omega
  have hik : i ≤ k := by omega
  have hjk : j ≤ k := by omega
  have hci : ¬ (cap = i) := by omega
  have hci' : ¬ ((cap : Int) = (i : Int)) := by omega
  have e1 : (cur.toList.take (i * 2)) = (l0.take i).flatMap encE := by
    rw [← flat_take encE_len, ← ht, List.take_take, Nat.min_eq_left (by omega)]
  have e2 : (l0.take i).flatMap encE ++ encE x ++ cs1 = (l0.take i ++ [x] ++ l0.drop i).flatMap encE := by
    rw [hcs1, List.flatMap_append, List.flatMap_append, List.flatMap_cons, List.flatMap_nil, List.append_nil]
  have e3 : (l0.take i ++ [x] ++ l0.drop i).length = k := by
    simp only [List.length_append, List.length_take, List.length_drop, List.length_cons, List.length_nil]
    omega
  have hbw : g < w.heap.size := blk_lt hg
  have hbw2 : g2 < w.heap.size := blk_lt hg2
  have hold : (Builtin.firstCells i0.size i (.slice (some ⟨g, 0, none⟩) i cap)).run Try.prog w.drew = .ok ((l0.take i).flatMap encE).toArray w.drew := by
    rw [hz1]
    exact run_firstCells_some w.drew 2 i ⟨g, 0, none⟩ i cap _ (by rw [flat_len encE_len, List.length_take, Nat.min_eq_left (by omega)]) (fun t u hu => by
      rw [Addr.add_lit, Nat.zero_add]
      refine (blk_cell (w := w.drew) hg t).trans ?_
      rw [← e1, List.getElem?_take] at hu
      split at hu
      · simpa using hu
      · cases hu)
  obtain ⟨G, hG⟩ : ∃ G, G = grownCap w k cap 55 := ⟨_, rfl⟩
  have hGn : k ≤ G := by rw [hG]; exact grownCap_ge w _ _ _
  have hGm : G ≤ maxLen := by
    rw [hG]
    exact grownCap_le_maxLen w k cap 55 (by unfold maxLen; omega)
  obtain ⟨ROW, hROW⟩ : ∃ ROW : Array Value, ROW = ((l0.take i).flatMap encE).toArray ++ Builtin.zeroCells (Value.agg #[.string ⟨#[]⟩, .int .i64 0]).cells (k - i) ++ Builtin.zeroCells (Value.agg #[.string ⟨#[]⟩, .int .i64 0]).cells (G - k) := ⟨_, rfl⟩
  obtain ⟨W1, hW1⟩ : ∃ W1, W1 = w.drew.alloc (.cells ROW 55) := ⟨_, rfl⟩
  have hikk : i + (k - i) = k := by omega
  have hrz : Aside0 (∀ ty, (Builtin.append_ #[27, 3] ty #[.slice (some ⟨g, 0, none⟩) i cap, .int .i64 ((k - i : Nat) : Int)]).run Try.prog w = .ok (.slice (some ⟨w.heap.size, 0, none⟩) k G) W1) := Aside0.mk fun ty => by
    have h := Lib.run_append_grow_zeros w 27 3 ty 55 i0 (.agg #[.string ⟨#[]⟩, .int .i64 0]) .i64 .i64 Try.underlying27 Try.underlying3 hi0 hz0 (some ⟨g, 0, none⟩) i cap _ hold (k - i) (by omega) (by rw [hz1]; omega) (by omega) (by omega) (by rw [hzb]; omega) (by rw [hzb, hikk]; exact growslice_fits hroom (by omega))
    rw [hikk, ← hG, ← hROW, ← hW1] at h
    exact h
  have zl : ∀ q, (Builtin.zeroCells (Value.agg #[.string ⟨#[]⟩, .int .i64 0]).cells q).size = q * 2 := fun q => by
    simp [Builtin.zeroCells, Value.cells]
  have hRs : ROW.size = G * 2 := by
    rw [hROW, Array.size_append, Array.size_append, List.size_toArray, flat_len encE_len, List.length_take, zl, zl]
    omega
  have hRt : ROW.toList.take (i * 2) = (l0.take i).flatMap encE := by
    have hl : ((l0.take i).flatMap encE).length = i * 2 := by rw [flat_len encE_len, List.length_take]; omega
    rw [hROW, Array.toList_append, Array.toList_append, List.append_assoc, List.take_append_of_le_length (by simp only []; omega), List.take_of_length_le (by simp only []; omega)]
  have hN : W1.heap[w.heap.size]? = some (.cells ROW 55 (0, 0)) := by
    rw [hW1]
    exact heap_alloc_new w.drew _
  have hO : ∀ q, q < w.heap.size → W1.heap[q]? = w.heap[q]? := fun q hq => by
    rw [hW1]
    exact (below_alloc (Below.refl w.drew.heap.size w.drew) (.cells ROW 55)).block q hq
  obtain ⟨ROW2, hR2⟩ : ∃ ROW2 : Array Value, ROW2 = (ROW.toList.take (i * 2) ++ encE x ++ ROW.toList.drop (i * 2 + (encE x).length)).toArray := ⟨_, rfl⟩
  have hR2s : ROW2.size = G * 2 := by
    rw [hR2]
    simp only [List.size_toArray, List.length_append, List.length_take, List.length_drop, Array.length_toList, hRs, encE, List.length_cons, List.length_nil]
    omega
  obtain ⟨W2, hW2⟩ : ∃ W2, W2 = W1.setRow w.heap.size ROW2 := ⟨_, rfl⟩
  have hcpA : ∀ ty, (Builtin.copy_ #[27, 27] ty #[.slice (some ⟨w.heap.size, i * 2, none⟩) (k - i) (G - i), .slice (some ⟨g2, 0, none⟩) m cap2]).run Try.prog W1 = .ok (goInt m) W2 := fun ty => by
    rw [hW2, hR2]
    exact run_copy_rowk W1 _ _ ty 55 2 w.heap.size (i * 2) (k - i) (G - i) ⟨g2, 0, none⟩ m cap2 m ROW 55 (encE x) Try.underlying27 hsz hN (by simp only [Nat.min_def]; split <;> omega) (by rw [hm1]; rfl)
      (fun t u hu => by rw [Addr.add_lit, Nat.zero_add]; exact (blk_cell ((hO g2 hbw2).trans hg2) t).trans (hsrc2 t u hu)) (by rw [hRs]; show i * 2 + 2 ≤ _; omega) one_e
  have hN2 : W2.heap[w.heap.size]? = some (.cells ROW2 55 (0, 0)) := by rw [hW2]; exact setRow_heap W1 _ ROW ROW2 _ _ hN
  have hg2' : W2.heap[g]? = some (.cells cur 55 (0, 0)) := by rw [hW2, setRow_other W1 w.heap.size g ROW2 (by omega), hO g hbw]; exact hg
  obtain ⟨ROW3, hR3⟩ : ∃ ROW3 : Array Value, ROW3 = (ROW2.toList.take (j * 2) ++ cs1 ++ ROW2.toList.drop (j * 2 + cs1.length)).toArray := ⟨_, rfl⟩
  have hcpB : Aside0 (∀ ty, (Builtin.copy_ #[27, 27] ty #[.slice (some ⟨w.heap.size, j * 2, none⟩) (k - j) (G - j), .slice (some ⟨g, i * 2, none⟩) (n - i) (cap - i)]).run Try.prog W2.drew = .ok (goInt (n - i : Nat)) (W2.drew.setRow w.heap.size ROW3)) := Aside0.mk fun ty => by
    rw [hR3]
    exact run_copy_rowk W2.drew _ _ ty 55 2 w.heap.size (j * 2) (k - j) (G - j) ⟨g, i * 2, none⟩ (n - i) (cap - i) (n - i) ROW2 55 cs1 Try.underlying27 hsz hN2 (by simp only [Nat.min_def]; split <;> omega) hc1
      (fun t u hu => by rw [Addr.add_lit]; exact (blk_cell (w := W2.drew) hg2' (i * 2 + t)).trans (hsrc t u hu)) (by rw [hc1, hR2s]; omega) (by rw [hcs1]; exact one_flat _)
  have hR3s : ROW3.size = G * 2 := by
    rw [hR3]
    simp only [List.size_toArray, List.length_append, List.length_take, List.length_drop, Array.length_toList, hR2s, hc1]
    omega
  have hout : ROW3.toList.take (k * 2) = (l0.take i ++ [x] ++ l0.drop i).flatMap encE := by
    have hb : j * 2 = i * 2 + (encE x).length := by show j * 2 = i * 2 + 2; omega
    have hl : j * 2 + cs1.length ≤ ROW.toList.length := by rw [hc1, Array.length_toList, hRs]; omega
    have hkk : k * 2 = j * 2 + cs1.length := by rw [hc1]; omega
    rw [hR3, hR2, List.toList_toArray, List.toList_toArray, hkk, row_two hb hl, hRt, e2]
  have hsw : w0.heap.size ≤ w.heap.size := hB.size
  have hfin : Kd.R k55 55 (W2.drew.setRow w.heap.size ROW3) w0.heap.size (fun k_ => (P0_ k_ ∨ P2_ k_ ∨ w.heap.size ≤ k_)) (.slice (some ⟨w.heap.size, 0, none⟩) k G) (l0.take i ++ [x] ++ l0.drop i) :=
    flatR_mk entM encE_len rfl e3.symm hsw (.inr (.inr (Nat.le_refl _))) (setRow_heap W2.drew _ ROW2 _ _ _ hN2) hGn hGm hR3s hout
  have hbel : Below w0.heap.size w0 (W2.drew.setRow w.heap.size ROW3) := by
    rw [hW2, hW1]
    exact below_setRow (below_drew (below_setRow (below_alloc (below_drew hB) _) hsw _)) hsw _
  have hkp : Kept w (W2.drew.setRow w.heap.size ROW3) (fun k_ => P0_ k_ ∨ P2_ k_) := by
    rw [hW2, hW1]
    exact kept_setRow (Kept.drew (kept_setRow (Kept.alloc (Kept.drew (Kept.refl w _)) _) (.inr (Nat.le_refl _)) _)) (.inr (Nat.le_refl _)) _
  have HF := Aside0.mk (And.intro hfin (And.intro hbel hkp))
  have hGi : ¬ (G = i) := by omega
  have hGj : ¬ (G = j) := by omega
  have hgt : (cap : Int) < (k : Int) := by omega
  have hiG : i ≤ G := by omega
  have hjG : j ≤ G := by omega
  have hG63 : G ≤ 9223372036854775807 := by
    have := hGm
    unfold maxLen at this
    omega
  have hj10 : i + m = j ∧ j < 10000000 ∧ n + m = k ∧ k < 10000000 ∧ k = i + (k - i) := by omega
  have hw1 : True → IntKind.i64.wrap ((i : Int) + (m : Int)) = (j : Int) := fun _ => (wI hj10.1 hj10.2.1).1
  have hw1' : True → wrap64 ((i : Int) + (m : Int)) = (j : Int) := fun _ => (wI hj10.1 hj10.2.1).2
  have hw2 : True → IntKind.i64.wrap ((n : Int) + (m : Int)) = (k : Int) := fun _ => (wI hj10.2.2.1 hj10.2.2.2.1).1
  have hw2' : True → wrap64 ((n : Int) + (m : Int)) = (k : Int) := fun _ => (wI hj10.2.2.1 hj10.2.2.2.1).2
  have hw3 : True → IntKind.i64.wrap ((k : Int) - (i : Int)) = ((k - i : Nat) : Int) := fun _ => (wS hj10.2.2.2.2 hj10.2.2.2.1).1
  have hw3' : True → wrap64 ((k : Int) - (i : Int)) = ((k - i : Nat) : Int) := fun _ => (wS hj10.2.2.2.2 hj10.2.2.2.1).2
  clear hj10 h50
  clear hB hg hg2 hs hs2 ht ht2 hcs1 hc1 hsrc hsrc2 one_e e1 e2 e3 hold hROW hRs hRt hN hO hR2 hR2s hW2 hN2 hg2' hR3 hR3s hout hfin hbel hkp hok hn hj hk hm1 hW1 hG hGm hikk zl hbw hbw2 hsw
  go_enter Try.func69, Try.ntmps69
  go_wp2_with (at_builtin; refine Lib.wpList_append_run _ rfl _ _ _ _ rfl _ _ rfl rfl _ _ (hrz.out _) ?_)
  go_region_law (refine step_copy_runI rfl (.tmp 50) (.tmp 53) 27 27 rfl (.slice (some ⟨w.heap.size, j * 2, none⟩) (k - j) (G - j)) (.slice (some ⟨g, i * 2, none⟩) (n - i) (cap - i)) (by simp [Act.eval, Act.put]) (by simp [Act.eval, Act.put]) (hcpB.out _) ?_)
  go_wp2
  go_ret
  exact ⟨_, rfl, HF.out.1, HF.out.2.1, HF.out.2.2⟩
set_option maxHeartbeats 8000000 in
set_option maxRecDepth 100000 in
theorem impl_Entry_69.calls (P0_ : Nat → Prop) (u9000_ : Value) (l0 : List (S55)) (a1 : Int) (P2_ : Nat → Prop) (u9001_ : Value) (l2 : List (S55)) (r : List (S55)) (w0 w : World) (hB : Below w0.heap.size w0 w) (ho0 : Kd.R k55 55 w w0.heap.size P0_ u9000_ l0) (hp0_2 : ∀ k_, P0_ k_ → ¬ P2_ k_) (ho2 : Kd.R k55 55 w w0.heap.size P2_ u9001_ l2) (hp2_0 : ∀ k_, P2_ k_ → ¬ P0_ k_) (h : impl_Entry_69.f l0 a1 l2 = some r) :
    Calls Try.prog 69 #[u9000_, .int .i64 a1, u9001_] w fun e w' => ∃ v0_ : Value, e = .returned (v0_) ∧ Kd.R k55 55 w' w0.heap.size (fun k_ => (P0_ k_ ∨ P2_ k_ ∨ w.heap.size ≤ k_)) v0_ r ∧ Below w0.heap.size w0 w' ∧ Kept w w' (fun k_ => P0_ k_ ∨ P2_ k_) := by
  unfold impl_Entry_69.f at h
  match l2, ho2, h with
  | [], _, h => cases h
  | _ :: _ :: _, _, h => cases h
  | [x], ho2, h =>
  simp only at h
  by_cases h0 : 0 ≤ a1
  case neg => rw [if_neg h0] at h; cases h
  rw [if_pos h0] at h
  by_cases h1 : a1 ≤ (l0.length : Int)
  case neg => rw [if_neg h1] at h; cases h
  rw [if_pos h1] at h
  by_cases h2 : l0.length < 5000000
  case neg => rw [if_neg h2] at h; cases h
  rw [if_pos h2] at h
  obtain rfl := Option.some.inj h
  clear h
  obtain ⟨i, rfl⟩ : ∃ i : Nat, a1 = (i : Int) := ⟨a1.toNat, by omega⟩
  rw [Int.toNat_natCast]
  obtain ⟨A2, c2, e2, hc2, hC2⟩ := Kd.R_reads ho2
  obtain ⟨g2, cap2, cur2, e3, hbg2, hok2, hg2, hn2, hm2, hs2, ht2⟩ := flatR_open (enc := encE) entM encE_len rfl ho2 (by simp)
  rw [e3] at e2 ⊢
  injection e2 with e4 e5 e6
  subst e4 e6
  by_cases hend : i = l0.length
  · subst hend
    rw [List.take_of_length_le (Nat.le_refl _), List.drop_of_length_le (Nat.le_refl _), List.append_nil]
    exact impl_Entry_69.atEnd l0 [x] w0 w P0_ P2_ _ g2 cap2 hB ho0 rfl hC2 h2
  · have hin : i < l0.length := by omega
    obtain ⟨g, cap, cur, rfl, hbg, hok, hg, hnc, hm, hs, ht⟩ := flatR_open (enc := encE) entM encE_len rfl ho0 (by omega)
    have hne : g2 ≠ g := fun e => hp0_2 g hok (e ▸ hok2)
    have ht2' : cur2.toList.take (1 * 2) = encE x := by
      rw [List.flatMap_cons, List.flatMap_nil, List.append_nil] at ht2
      exact ht2
    by_cases hroom : l0.length + 1 ≤ cap
    · exact impl_Entry_69.shift l0 x w0 w P0_ P2_ g cap g2 cap2 i l0.length 1 (i + 1) (l0.length + 1) cur cur2 hB hbg hok hne hg hm hs ht hg2 hs2 hn2 ht2' rfl rfl hin hnc rfl rfl h2 hroom
    · exact impl_Entry_69.grow l0 x w0 w P0_ P2_ g cap g2 cap2 i l0.length 1 (i + 1) (l0.length + 1) cur cur2 hB hbg hok hne hg hm hs ht hg2 hs2 hn2 ht2' rfl rfl hin hnc rfl rfl h2 (by omega)
end Go.Proofs.Ytblejbgkcgajgaa.Q
end

section
namespace Go.Proofs.Ytblejbgkcgajgaa.Q
open Go.RowKit Go.Proofs.YtblejbgkcgajgaaW.PrintWords Go.Proofs.YtblejbgkcgajgaaW.PrintLast Go.Proofs.YtblejbgkcgajgaaW.PrintMore
attribute [local go_sem] max2_int min2_int max_two min_two max_three min_three max_four min_four   -- for this text's walks alone
set_option linter.unusedVariables false
set_option linter.unusedSimpArgs false
attribute [local go_sem] bin_leq bin_gtr bin_geq
def impl_edited.l0 : Nat → List (S55) → List (S62) → Int → Int → Option ((List (S55)))
  | 0, _, _, _, _ => none
  | k + 1, x5, x12, x13, x14 => if x14 < x13 then (if 0 ≤ x14 then (if x14 < (x12.length : Int) then ((impl_find.f x5 ((rd_T62 x12 x14).f0)).bind fun bt491 => (if bt491.2 = true then ((impl_Entry_68.f x5 bt491.1 (wrap64 (bt491.1 + 1))).bind fun t493 => (if ((rd_T62 x12 x14).f2 = true) then (impl_edited.l0 k t493 x12 x13 (wrap64 (x14 + 1))) else ((impl_Entry_69.f t493 bt491.1 (([(⟨(rd_T62 x12 x14).f0, (rd_T62 x12 x14).f1⟩ : S55)] : List (S55)))).bind fun t499 => (impl_edited.l0 k t499 x12 x13 (wrap64 (x14 + 1)))))) else (if ((rd_T62 x12 x14).f2 = true) then (impl_edited.l0 k x5 x12 x13 (wrap64 (x14 + 1))) else ((impl_Entry_69.f x5 bt491.1 (([(⟨(rd_T62 x12 x14).f0, (rd_T62 x12 x14).f1⟩ : S55)] : List (S55)))).bind fun t505 => (impl_edited.l0 k t505 x12 x13 (wrap64 (x14 + 1))))))) else (none)) else (none)) else (some x5)
def impl_edited.f (k : Nat) (l0 : List (S55)) (l1 : List (S62)) : Option ((List (S55))) := (impl_Entry_67.f l0).bind fun t486 => (impl_edited.l0 k t486 l1 (l1.length : Int) 0)
set_option maxHeartbeats 8000000 in
set_option maxRecDepth 100000 in
theorem impl_edited.calls (k : Nat) (A0 : Option Addr) (c0 : Nat) (l0 : List (S55)) (A1 : Option Addr) (c1 : Nat) (l1 : List (S62)) (r : List (S55)) (w : World) (hr0 : Kd.C k55 w A0 l0.length l0) (hc0 : l0.length ≤ c0) (hr1 : Kd.C k62 w A1 l1.length l1) (hc1 : l1.length ≤ c1) (h : impl_edited.f k l0 l1 = some r) :
    Calls Try.prog 53 #[.slice A0 l0.length c0, .slice A1 l1.length c1] w fun e w' => ∃ v0_ : Value, e = .returned (v0_) ∧ Kd.R k55 55 w' w.heap.size (fun _ => True) v0_ r ∧ Below w.heap.size w w' := by
  have hu62 := Try.underlying62
  have hu55 := Try.underlying55
  have HR0 := Aside0.mk hr0
  have HC0 := Aside0.mk hc0
  clear hr0 hc0
  have HR1 := Aside0.mk hr1
  have HC1 := Aside0.mk hc1
  clear hr1 hc1
  have HB := Aside0.mk (Below.refl w.heap.size w)
  have H : ((impl_Entry_67.f l0).bind fun t486 => (impl_edited.l0 k t486 l1 (l1.length : Int) 0)) = some r := h
  clear h
  replace H := Option.bind_eq_some_iff.mp H
  obtain ⟨t486, A30, H⟩ := H
  replace H : (impl_edited.l0 k t486 l1 (l1.length : Int) 0) = some r := H
  have A3 := Aside0.mk A30
  clear A30
  have H' := Aside0.mk H
  clear H
  go_enter Try.func53, Try.ntmps53
  go_wp2_with (first | ((with_reducible refine gate_callee (f := 67) rfl ?_); refine goesL_ (some 11) rfl rfl Try.func67 (by kernel_rfl) rfl #[.slice A0 l0.length c0] rfl gA ?_; (with_reducible refine (impl_Entry_67.calls _ _ l0 t486 _ ?side1 ?side2 A3.out).mono ?_); (case side1 => exact cN HR0); (case side2 => exact HC0.out); rintro e w4 ⟨v487, rfl, ho0, hb⟩; refine ⟨_, rfl, ?_⟩; have n0_ := Aside0.mk (Kd.R_lower ho0 (below_size (w := w) bW)); have n1_ := Aside0.mk (below_step (w := w) bW hb); clear HB; have HO488 := n0_; have HB := n1_; clear n0_ n1_; (try clear hb); (try clear hb2); (try clear hk); (try clear hi); (try clear ho0)))
  go_loopg [5, 14] k (fun kq v5 v14 w' => ∃ (x5_1 : List (S55)) (x14_1 : Int), v14 = .int .i64 x14_1 ∧ Aside0 (impl_edited.l0 kq x5_1 l1 (l1.length : Int) x14_1 = some r) ∧ Aside0 (kq ≤ k) ∧ Aside0 (Kd.R k55 55 w' w.heap.size (fun _ => True) v5 x5_1) ∧ Aside0 (Below w.heap.size w w'))
  case atStart => exact ⟨(t486), (0), vE, H', ⟨Nat.le_refl _⟩, ⟨by (with_reducible repeat (first | apply Kd.R_alloc | apply Kd.R_drewN | apply Kd.R_drew)); exact HO488.out⟩, ⟨bW⟩⟩
  case round =>
    clear H'
    try clear c1
    try clear p2
    obtain ⟨x5_1, x14_1, rfl, HA, HK1, HO_5, HB⟩ := hrel
    cases gk with
    | zero => exact absurd HA.out (by simp [impl_edited.l0])
    | succ k1 =>
      have H := HA.out
      clear HA
      simp only [impl_edited.l0] at H
      by_cases c5 : x14_1 < (l1.length : Int)
      · rw [if_pos c5] at H
        have c5b0 : decide (x14_1 < (l1.length : Int)) = true := decide_eq_true c5
        clear c5
        by_cases c6 : 0 ≤ x14_1
        · rw [if_pos c6] at H
          have c6b0 : decide (0 ≤ x14_1) = true := decide_eq_true c6
          clear c6
          by_cases c7 : x14_1 < (l1.length : Int)
          · rw [if_pos c7] at H
            have c7b0 : decide (x14_1 < (l1.length : Int)) = true := decide_eq_true c7
            clear c7
            replace H := Option.bind_eq_some_iff.mp H
            obtain ⟨⟨t491, t492⟩, A80, H⟩ := H
            replace H : (if t492 = true then ((impl_Entry_68.f x5_1 t491 (wrap64 (t491 + 1))).bind fun t493 => (if ((rd_T62 l1 x14_1).f2 = true) then (impl_edited.l0 k1 t493 l1 (l1.length : Int) (wrap64 (x14_1 + 1))) else ((impl_Entry_69.f t493 t491 (([(⟨(rd_T62 l1 x14_1).f0, (rd_T62 l1 x14_1).f1⟩ : S55)] : List (S55)))).bind fun t499 => (impl_edited.l0 k1 t499 l1 (l1.length : Int) (wrap64 (x14_1 + 1)))))) else (if ((rd_T62 l1 x14_1).f2 = true) then (impl_edited.l0 k1 x5_1 l1 (l1.length : Int) (wrap64 (x14_1 + 1))) else ((impl_Entry_69.f x5_1 t491 (([(⟨(rd_T62 l1 x14_1).f0, (rd_T62 l1 x14_1).f1⟩ : S55)] : List (S55)))).bind fun t505 => (impl_edited.l0 k1 t505 l1 (l1.length : Int) (wrap64 (x14_1 + 1)))))) = some r := H
            have A8 := Aside0.mk A80
            clear A80
            by_cases c9 : t492 = true
            · subst c9
              have H1 : ((impl_Entry_68.f x5_1 t491 (wrap64 (t491 + 1))).bind fun t493 => (if ((rd_T62 l1 x14_1).f2 = true) then (impl_edited.l0 k1 t493 l1 (l1.length : Int) (wrap64 (x14_1 + 1))) else ((impl_Entry_69.f t493 t491 (([(⟨(rd_T62 l1 x14_1).f0, (rd_T62 l1 x14_1).f1⟩ : S55)] : List (S55)))).bind fun t499 => (impl_edited.l0 k1 t499 l1 (l1.length : Int) (wrap64 (x14_1 + 1)))))) = some r := by rw [if_pos rfl] at H; exact H
              clear H
              have H := H1
              clear H1
              replace H := Option.bind_eq_some_iff.mp H
              obtain ⟨t493, A100, H⟩ := H
              replace H : (if ((rd_T62 l1 x14_1).f2 = true) then (impl_edited.l0 k1 t493 l1 (l1.length : Int) (wrap64 (x14_1 + 1))) else ((impl_Entry_69.f t493 t491 (([(⟨(rd_T62 l1 x14_1).f0, (rd_T62 l1 x14_1).f1⟩ : S55)] : List (S55)))).bind fun t499 => (impl_edited.l0 k1 t499 l1 (l1.length : Int) (wrap64 (x14_1 + 1))))) = some r := H
              have A10 := Aside0.mk A100
              clear A100
              obtain ⟨bq11, hbq11⟩ : ∃ b_ : Bool, b_ = ((rd_T62 l1 x14_1).f2) := ⟨_, rfl⟩
              replace H : (if (bq11 = true) then (impl_edited.l0 k1 t493 l1 (l1.length : Int) (wrap64 (x14_1 + 1))) else ((impl_Entry_69.f t493 t491 (([(⟨(rd_T62 l1 x14_1).f0, (rd_T62 l1 x14_1).f1⟩ : S55)] : List (S55)))).bind fun t499 => (impl_edited.l0 k1 t499 l1 (l1.length : Int) (wrap64 (x14_1 + 1))))) = some r := by rw [← hbq11] at H; exact H
              have Nbq11 := Aside0.mk hbq11
              clear hbq11
              by_cases c12 : (bq11 = true)
              · subst c12
                have H1 : (impl_edited.l0 k1 t493 l1 (l1.length : Int) (wrap64 (x14_1 + 1))) = some r := by rw [if_pos rfl] at H; exact H
                clear H
                have H := H1
                clear H1
                have H' := Aside0.mk H
                clear H
                have p489 : 0 ≤ (x14_1 : Int) := odt
                have q489 : x14_1 < (l1.length : Int) := odt
                obtain ⟨ad489, e489, hx489_0, hx489_1, hx489_2⟩ := at_T62 HR1.out x14_1 p489 q489
                (try rw [← Nbq11.out] at hx489_2)
                cases e489
                replace hx489_0 := (HB.out.cell (World.block_lt_of_cell? w _ hx489_0)).trans hx489_0
                replace hx489_1 := (HB.out.cell (World.block_lt_of_cell? w _ hx489_1)).trans hx489_1
                replace hx489_2 := (HB.out.cell (World.block_lt_of_cell? w _ hx489_2)).trans hx489_2
                replace p489 := eq_true p489
                replace q489 := eq_true q489
                go_wp2_with (first | ((with_reducible refine gate_dst (N := 7) rfl ?_); refine bE (N := 7) (cs := #[.string (⟨#[]⟩ : ByteArray), .int .i64 0, .bool false]) (t := 62) ?_; intro gb490 hg w13 hbox hb; have n0_ := Aside0.mk (Kd.R_below (pR HO_5) hb); have n1_ := Aside0.mk (below_step (w := w) bW hb); have n2_ := Aside0.mk (hbox); have n3_ := Aside0.mk (gS (w := w) hg); have n4_ := n3_; clear HO_5; clear HB; have HO_5 := n0_; have HB := n1_; have BK490 := n2_; have GW490 := n3_; have GE490 := n4_; clear n0_ n1_ n2_ n3_ n4_; clear hb hbox hg; obtain ⟨hcz14_0, hcz14_1, hcz14_2⟩ := cz3 BK490; obtain ⟨hfz14_0, hfz14_1, hfz14_2⟩ := fz3 BK490; obtain ⟨Ao15, co15, eo15⟩ := Kd.R_slice HO_5.out; subst eo15) | ((with_reducible refine gate_callee (f := 57) rfl ?_); refine goesL_ (some 22) rfl rfl Try.func57 (by kernel_rfl) rfl #[.slice Ao15 x5_1.length co15, .string ((rd_T62 l1 x14_1).f0)] rfl gA ?_; (with_reducible refine (impl_find.calls _ _ x5_1 ((rd_T62 l1 x14_1).f0) t491 true _ ?side1 ?side2 A8.out).mono ?_); (case side1 => refine (Kd.R_reads' (e := 55) (base := w.heap.size) (ok := fun k_ => True) (n := x5_1.length) (c := co15) ?_).2.2; exact (by (with_reducible repeat (first | apply Kd.R_alloc | apply Kd.R_drewN | apply Kd.R_drew)); exact (Kd.R_mono (Kd.R_far (p := ⟨gb490, 2, none⟩) (Kd.R_far (p := ⟨gb490, 1, none⟩) (Kd.R_far (p := ⟨gb490, 0, none⟩) (Kd.R_types HO_5.out BK490.out (by decide)) (fun _ hk => hk.2) (.string ((rd_T62 l1 x14_1).f0))) (fun _ hk => hk.2) (.int .i64 ((rd_T62 l1 x14_1).f1))) (fun _ hk => hk.2) (.bool true)) (fun _ h_ => h_.1)))); (case side2 => exact (Kd.R_reads' HO_5.out).2.1); rintro e w16 ⟨rfl, hb⟩; refine ⟨_, rfl, ?_⟩; have n0_ := Aside0.mk (Kd.R_below (by (with_reducible repeat (first | apply Kd.R_alloc | apply Kd.R_drewN | apply Kd.R_drew)); exact (Kd.R_mono (Kd.R_far (p := ⟨gb490, 2, none⟩) (Kd.R_far (p := ⟨gb490, 1, none⟩) (Kd.R_far (p := ⟨gb490, 0, none⟩) (Kd.R_types HO_5.out BK490.out (by decide)) (fun _ hk => hk.2) (.string ((rd_T62 l1 x14_1).f0))) (fun _ hk => hk.2) (.int .i64 ((rd_T62 l1 x14_1).f1))) (fun _ hk => hk.2) (.bool true)) (fun _ h_ => h_.1))) hb); have n1_ := Aside0.mk (blk_below (g := gb490) (o := .cells #[.string ((rd_T62 l1 x14_1).f0), .int .i64 ((rd_T62 l1 x14_1).f1), .bool true] 62 (0, 0)) (by (with_reducible repeat (first | refine blk_drewN ?_ _ | refine blk_drew ?_ | refine blk_alloc ?_ _)); refine blk_put (cs := #[.string ((rd_T62 l1 x14_1).f0), .int .i64 ((rd_T62 l1 x14_1).f1), .bool false]) ?_ 2 _ rfl; (with_reducible repeat (first | refine blk_drewN ?_ _ | refine blk_drew ?_ | refine blk_alloc ?_ _)); refine blk_put (cs := #[.string ((rd_T62 l1 x14_1).f0), .int .i64 0, .bool false]) ?_ 1 _ rfl; (with_reducible repeat (first | refine blk_drewN ?_ _ | refine blk_drew ?_ | refine blk_alloc ?_ _)); refine blk_put (cs := #[.string (⟨#[]⟩ : ByteArray), .int .i64 0, .bool false]) ?_ 0 _ rfl; (with_reducible repeat (first | refine blk_drewN ?_ _ | refine blk_drew ?_ | refine blk_alloc ?_ _)); exact BK490.out) hb); have n2_ := Aside0.mk (below_step (w := w) bW hb); clear HO_5; clear BK490; clear HB; have HO_5 := n0_; have BK490 := n1_; have HB := n2_; clear n0_ n1_ n2_; (try clear hb); (try clear hb2); (try clear hk); (try clear hi)) | ((with_reducible refine gate_callee (f := 68) rfl ?_); refine goesL_ (some 30) rfl rfl Try.func68 (by kernel_rfl) rfl #[.slice Ao15 x5_1.length co15, .int .i64 t491, .int .i64 (wrap64 (t491 + 1))] rfl gA ?_; (with_reducible refine (impl_Entry_68.calls (fun k_ => some k_ = (.slice Ao15 x5_1.length co15 : Value).ownBlock) (.slice Ao15 x5_1.length co15) x5_1 t491 (wrap64 (t491 + 1)) t493 w _ ?side1 ?side2 A10.out).mono ?_); (case side1 => repeat (first | (with_reducible first | exact HB.out | apply below_alloc | apply pw_below_drewN | apply below_drew1 | refine below_set ?_ GE490.out) | exact HB.out)); (case side2 => exact Kd.R_tight rfl HO_5.out); rintro e w17 ⟨v494, rfl, ho0, hb, hkp⟩; refine ⟨_, rfl, ?_⟩; have n0_ := Aside0.mk (blk_kept (kB BK490) hkp (fun hs_ => (fun e_ => (Kd.R_ne HO_5.out BK490.out (by decide)) e_) hs_)); have n1_ := Aside0.mk (Kd.R_mono (ok' := fun k_ => True) ho0 (fun k_ hk_ => trivial)); have n2_ := Aside0.mk (hb); clear BK490; clear HB; clear HO_5; have BK490 := n0_; have HO495 := n1_; have HB := n2_; clear n0_ n1_ n2_; (try clear hb); (try clear hkp); (try clear ho0); obtain ⟨hcz18_0, hcz18_1, hcz18_2⟩ := cz3 BK490; obtain ⟨hfz18_0, hfz18_1, hfz18_2⟩ := fz3 BK490))
                go_roundg k1
                case measure => have := HK1.out; omega
                case rel => exact ⟨(t493), (wrap64 (x14_1 + 1)), vE, H', ⟨by have := HK1.out; omega⟩, ⟨by (with_reducible repeat (first | apply Kd.R_alloc | apply Kd.R_drewN | apply Kd.R_drew)); exact HO495.out⟩, ⟨bW⟩⟩
              · replace c12 := Bool.eq_false_iff.mpr c12
                subst c12
                have H1 : ((impl_Entry_69.f t493 t491 (([(⟨(rd_T62 l1 x14_1).f0, (rd_T62 l1 x14_1).f1⟩ : S55)] : List (S55)))).bind fun t499 => (impl_edited.l0 k1 t499 l1 (l1.length : Int) (wrap64 (x14_1 + 1)))) = some r := by rw [if_neg (show ¬ (false = true) by decide)] at H; exact H
                clear H
                have H := H1
                clear H1
                obtain ⟨y496, hy496⟩ : ∃ y_ : List (S55), y_ = (([(⟨(rd_T62 l1 x14_1).f0, (rd_T62 l1 x14_1).f1⟩ : S55)] : List (S55))) := ⟨_, rfl⟩
                replace H : ((impl_Entry_69.f t493 t491 y496).bind fun t499 => (impl_edited.l0 k1 t499 l1 (l1.length : Int) (wrap64 (x14_1 + 1)))) = some r := by first | (rw [hy496]; with_reducible exact H) | (have H2_ := (Option.bind_some _ _).symm.trans H; rw [hy496]; with_reducible exact H2_) | (have H2_ := (Option.bind_some _ _).symm.trans H; with_reducible exact H2_) | with_reducible exact H | (rw [hy496]; exact H) | exact H
                have Ny496 := Aside0.mk hy496
                clear hy496
                replace H := Option.bind_eq_some_iff.mp H
                obtain ⟨t499, A190, H⟩ := H
                replace H : (impl_edited.l0 k1 t499 l1 (l1.length : Int) (wrap64 (x14_1 + 1))) = some r := H
                have A19 := Aside0.mk A190
                clear A190
                have H' := Aside0.mk H
                clear H
                have p489 : 0 ≤ (x14_1 : Int) := odt
                have q489 : x14_1 < (l1.length : Int) := odt
                obtain ⟨ad489, e489, hx489_0, hx489_1, hx489_2⟩ := at_T62 HR1.out x14_1 p489 q489
                (try rw [← Nbq11.out] at hx489_2)
                cases e489
                replace hx489_0 := (HB.out.cell (World.block_lt_of_cell? w _ hx489_0)).trans hx489_0
                replace hx489_1 := (HB.out.cell (World.block_lt_of_cell? w _ hx489_1)).trans hx489_1
                replace hx489_2 := (HB.out.cell (World.block_lt_of_cell? w _ hx489_2)).trans hx489_2
                replace p489 := eq_true p489
                replace q489 := eq_true q489
                go_wp2_with (first | ((with_reducible refine gate_dst (N := 7) rfl ?_); refine bE (N := 7) (cs := #[.string (⟨#[]⟩ : ByteArray), .int .i64 0, .bool false]) (t := 62) ?_; intro gb490 hg w20 hbox hb; have n0_ := Aside0.mk (Kd.R_below (pR HO_5) hb); have n1_ := Aside0.mk (below_step (w := w) bW hb); have n2_ := Aside0.mk (hbox); have n3_ := Aside0.mk (gS (w := w) hg); have n4_ := n3_; clear HO_5; clear HB; have HO_5 := n0_; have HB := n1_; have BK490 := n2_; have GW490 := n3_; have GE490 := n4_; clear n0_ n1_ n2_ n3_ n4_; clear hb hbox hg; obtain ⟨hcz21_0, hcz21_1, hcz21_2⟩ := cz3 BK490; obtain ⟨hfz21_0, hfz21_1, hfz21_2⟩ := fz3 BK490; obtain ⟨Ao22, co22, eo22⟩ := Kd.R_slice HO_5.out; subst eo22) | ((with_reducible refine gate_callee (f := 57) rfl ?_); refine goesL_ (some 22) rfl rfl Try.func57 (by kernel_rfl) rfl #[.slice Ao22 x5_1.length co22, .string ((rd_T62 l1 x14_1).f0)] rfl gA ?_; (with_reducible refine (impl_find.calls _ _ x5_1 ((rd_T62 l1 x14_1).f0) t491 true _ ?side1 ?side2 A8.out).mono ?_); (case side1 => refine (Kd.R_reads' (e := 55) (base := w.heap.size) (ok := fun k_ => True) (n := x5_1.length) (c := co22) ?_).2.2; exact (by (with_reducible repeat (first | apply Kd.R_alloc | apply Kd.R_drewN | apply Kd.R_drew)); exact (Kd.R_mono (Kd.R_far (p := ⟨gb490, 2, none⟩) (Kd.R_far (p := ⟨gb490, 1, none⟩) (Kd.R_far (p := ⟨gb490, 0, none⟩) (Kd.R_types HO_5.out BK490.out (by decide)) (fun _ hk => hk.2) (.string ((rd_T62 l1 x14_1).f0))) (fun _ hk => hk.2) (.int .i64 ((rd_T62 l1 x14_1).f1))) (fun _ hk => hk.2) (.bool false)) (fun _ h_ => h_.1)))); (case side2 => exact (Kd.R_reads' HO_5.out).2.1); rintro e w23 ⟨rfl, hb⟩; refine ⟨_, rfl, ?_⟩; have n0_ := Aside0.mk (Kd.R_below (by (with_reducible repeat (first | apply Kd.R_alloc | apply Kd.R_drewN | apply Kd.R_drew)); exact (Kd.R_mono (Kd.R_far (p := ⟨gb490, 2, none⟩) (Kd.R_far (p := ⟨gb490, 1, none⟩) (Kd.R_far (p := ⟨gb490, 0, none⟩) (Kd.R_types HO_5.out BK490.out (by decide)) (fun _ hk => hk.2) (.string ((rd_T62 l1 x14_1).f0))) (fun _ hk => hk.2) (.int .i64 ((rd_T62 l1 x14_1).f1))) (fun _ hk => hk.2) (.bool false)) (fun _ h_ => h_.1))) hb); have n1_ := Aside0.mk (blk_below (g := gb490) (o := .cells #[.string ((rd_T62 l1 x14_1).f0), .int .i64 ((rd_T62 l1 x14_1).f1), .bool false] 62 (0, 0)) (by (with_reducible repeat (first | refine blk_drewN ?_ _ | refine blk_drew ?_ | refine blk_alloc ?_ _)); refine blk_put (cs := #[.string ((rd_T62 l1 x14_1).f0), .int .i64 ((rd_T62 l1 x14_1).f1), .bool false]) ?_ 2 _ rfl; (with_reducible repeat (first | refine blk_drewN ?_ _ | refine blk_drew ?_ | refine blk_alloc ?_ _)); refine blk_put (cs := #[.string ((rd_T62 l1 x14_1).f0), .int .i64 0, .bool false]) ?_ 1 _ rfl; (with_reducible repeat (first | refine blk_drewN ?_ _ | refine blk_drew ?_ | refine blk_alloc ?_ _)); refine blk_put (cs := #[.string (⟨#[]⟩ : ByteArray), .int .i64 0, .bool false]) ?_ 0 _ rfl; (with_reducible repeat (first | refine blk_drewN ?_ _ | refine blk_drew ?_ | refine blk_alloc ?_ _)); exact BK490.out) hb); have n2_ := Aside0.mk (below_step (w := w) bW hb); clear HO_5; clear BK490; clear HB; have HO_5 := n0_; have BK490 := n1_; have HB := n2_; clear n0_ n1_ n2_; (try clear hb); (try clear hb2); (try clear hk); (try clear hi)) | ((with_reducible refine gate_callee (f := 68) rfl ?_); refine goesL_ (some 30) rfl rfl Try.func68 (by kernel_rfl) rfl #[.slice Ao22 x5_1.length co22, .int .i64 t491, .int .i64 (wrap64 (t491 + 1))] rfl gA ?_; (with_reducible refine (impl_Entry_68.calls (fun k_ => some k_ = (.slice Ao22 x5_1.length co22 : Value).ownBlock) (.slice Ao22 x5_1.length co22) x5_1 t491 (wrap64 (t491 + 1)) t493 w _ ?side1 ?side2 A10.out).mono ?_); (case side1 => repeat (first | (with_reducible first | exact HB.out | apply below_alloc | apply pw_below_drewN | apply below_drew1 | refine below_set ?_ GE490.out) | exact HB.out)); (case side2 => exact Kd.R_tight rfl HO_5.out); rintro e w24 ⟨v494, rfl, ho0, hb, hkp⟩; refine ⟨_, rfl, ?_⟩; have n0_ := Aside0.mk (blk_kept (kB BK490) hkp (fun hs_ => (fun e_ => (Kd.R_ne HO_5.out BK490.out (by decide)) e_) hs_)); have n1_ := Aside0.mk (Kd.R_mono (ok' := fun k_ => True) ho0 (fun k_ hk_ => trivial)); have n2_ := Aside0.mk (hb); clear BK490; clear HB; clear HO_5; have BK490 := n0_; have HO495 := n1_; have HB := n2_; clear n0_ n1_ n2_; (try clear hb); (try clear hkp); (try clear ho0); obtain ⟨hcz25_0, hcz25_1, hcz25_2⟩ := cz3 BK490; obtain ⟨hfz25_0, hfz25_1, hfz25_2⟩ := fz3 BK490) | ((with_reducible refine gate_dst (N := 41) rfl ?_); refine Kd.R_lit k55 _ 55 ?hg (N := 41) ?hd (xs := ([(⟨(rd_T62 l1 x14_1).f0, (rd_T62 l1 x14_1).f1⟩ : S55)] : List (S55))) (inner := [.string ((rd_T62 l1 x14_1).f0), .int .i64 ((rd_T62 l1 x14_1).f1)]) (ok := fun _ => True) (okp := fun _ => True) ?hr ?hp (fun _ hk => hk) trivial (Below.refl _ _) (Nat.le_refl _) (by simp) ?_; (case hd => rfl); (case hg => rfl); (case hr => first | (go_simp; done) | (go_simp; rfl)); (case hp => exact (Reps.c2 (show Kd.M k55 _ _ _ (⟨(rd_T62 l1 x14_1).f0, (rd_T62 l1 x14_1).f1⟩ : S55) [.string ((rd_T62 l1 x14_1).f0), .int .i64 ((rd_T62 l1 x14_1).f1)] from (k55_mkM _ _ _ (⟨(rd_T62 l1 x14_1).f0, (rd_T62 l1 x14_1).f1⟩ : S55) )) (Reps.none _ _))); intro v497 w26 ho27 hb hg_ hnew_; clear hg_ hnew_; (first | rw [← Ny496.out] at ho27 | (simp only [Int.reduceToNat] at ho27; rw [← Ny496.out] at ho27)); have n0_ := Aside0.mk (Kd.R_elder' (pR HO495) (Kd.R_base ho27) hb); have n1_ := Aside0.mk (Kd.R_lower (Kd.R_new' ho27 (Kd.R_lt (pR HO495))) (below_size (w := w) bW)); have n2_ := Aside0.mk (kb BK490 hb); have n3_ := Aside0.mk (below_step (w := w) bW hb); clear HO495; clear BK490; clear HB; have HO495 := n0_; have HO498 := n1_; have BK490 := n2_; have HB := n3_; clear n0_ n1_ n2_ n3_; clear hb ho27; obtain ⟨Ao28, co28, eo28⟩ := Kd.R_slice HO495.out; subst eo28; obtain ⟨Ao29, co29, eo29⟩ := Kd.R_slice HO498.out; subst eo29) | ((with_reducible refine gate_callee (f := 69) rfl ?_); refine goesL_ (some 42) rfl rfl Try.func69 (by kernel_rfl) rfl #[.slice Ao28 t493.length co28, .int .i64 t491, .slice Ao29 y496.length co29] rfl gA ?_; (with_reducible refine (impl_Entry_69.calls (fun k_ => some k_ = (.slice Ao28 t493.length co28 : Value).ownBlock) (.slice Ao28 t493.length co28) t493 t491 (fun k_ => some k_ = (.slice Ao29 y496.length co29 : Value).ownBlock) (.slice Ao29 y496.length co29) y496 t499 w _ ?side1 ?side2 ?side3 ?side4 ?side5 A19.out).mono ?_); (case side1 => repeat (first | (with_reducible first | exact HB.out | apply below_alloc | apply pw_below_drewN | apply below_drew1 | refine below_set ?_ GE490.out) | exact HB.out)); (case side2 => exact Kd.R_tight rfl HO495.out); (case side3 => exact fun k_ e_ => (HO495.out.1 k_ e_.symm).2); (case side4 => exact Kd.R_tight rfl HO498.out); (case side5 => exact fun k_ e_ => (HO498.out.1 k_ e_.symm).2); rintro e w30 ⟨v500, rfl, ho0, hb, hkp⟩; refine ⟨_, rfl, ?_⟩; have n0_ := Aside0.mk (blk_kept (kB BK490) hkp (fun hs_ => Or.elim hs_ (fun e_ => (fun e_ => (Kd.R_ne HO495.out BK490.out (by decide)) e_) e_) (fun e_ => (fun e_ => (Kd.R_ne HO498.out BK490.out (by decide)) e_) e_))); have n1_ := Aside0.mk (Kd.R_mono (ok' := fun k_ => True) ho0 (fun k_ hk_ => trivial)); have n2_ := Aside0.mk (hb); clear BK490; clear HB; clear HO495; clear HO498; have BK490 := n0_; have HO501 := n1_; have HB := n2_; clear n0_ n1_ n2_; (try clear hb); (try clear hkp); (try clear ho0)))
                go_roundg k1
                case measure => have := HK1.out; omega
                case rel => exact ⟨(t499), (wrap64 (x14_1 + 1)), vE, H', ⟨by have := HK1.out; omega⟩, ⟨by (with_reducible repeat (first | apply Kd.R_alloc | apply Kd.R_drewN | apply Kd.R_drew)); exact HO501.out⟩, ⟨bW⟩⟩
            · replace c9 := Bool.eq_false_iff.mpr c9
              subst c9
              have H1 : (if ((rd_T62 l1 x14_1).f2 = true) then (impl_edited.l0 k1 x5_1 l1 (l1.length : Int) (wrap64 (x14_1 + 1))) else ((impl_Entry_69.f x5_1 t491 (([(⟨(rd_T62 l1 x14_1).f0, (rd_T62 l1 x14_1).f1⟩ : S55)] : List (S55)))).bind fun t505 => (impl_edited.l0 k1 t505 l1 (l1.length : Int) (wrap64 (x14_1 + 1))))) = some r := by rw [if_neg (show ¬ (false = true) by decide)] at H; exact H
              clear H
              have H := H1
              clear H1
              obtain ⟨bq31, hbq31⟩ : ∃ b_ : Bool, b_ = ((rd_T62 l1 x14_1).f2) := ⟨_, rfl⟩
              replace H : (if (bq31 = true) then (impl_edited.l0 k1 x5_1 l1 (l1.length : Int) (wrap64 (x14_1 + 1))) else ((impl_Entry_69.f x5_1 t491 (([(⟨(rd_T62 l1 x14_1).f0, (rd_T62 l1 x14_1).f1⟩ : S55)] : List (S55)))).bind fun t505 => (impl_edited.l0 k1 t505 l1 (l1.length : Int) (wrap64 (x14_1 + 1))))) = some r := by rw [← hbq31] at H; exact H
              have Nbq31 := Aside0.mk hbq31
              clear hbq31
              by_cases c32 : (bq31 = true)
              · subst c32
                have H1 : (impl_edited.l0 k1 x5_1 l1 (l1.length : Int) (wrap64 (x14_1 + 1))) = some r := by rw [if_pos rfl] at H; exact H
                clear H
                have H := H1
                clear H1
                have H' := Aside0.mk H
                clear H
                have p489 : 0 ≤ (x14_1 : Int) := odt
                have q489 : x14_1 < (l1.length : Int) := odt
                obtain ⟨ad489, e489, hx489_0, hx489_1, hx489_2⟩ := at_T62 HR1.out x14_1 p489 q489
                (try rw [← Nbq31.out] at hx489_2)
                cases e489
                replace hx489_0 := (HB.out.cell (World.block_lt_of_cell? w _ hx489_0)).trans hx489_0
                replace hx489_1 := (HB.out.cell (World.block_lt_of_cell? w _ hx489_1)).trans hx489_1
                replace hx489_2 := (HB.out.cell (World.block_lt_of_cell? w _ hx489_2)).trans hx489_2
                replace p489 := eq_true p489
                replace q489 := eq_true q489
                go_wp2_with (first | ((with_reducible refine gate_dst (N := 7) rfl ?_); refine bE (N := 7) (cs := #[.string (⟨#[]⟩ : ByteArray), .int .i64 0, .bool false]) (t := 62) ?_; intro gb490 hg w33 hbox hb; have n0_ := Aside0.mk (Kd.R_below (pR HO_5) hb); have n1_ := Aside0.mk (below_step (w := w) bW hb); have n2_ := Aside0.mk (hbox); have n3_ := Aside0.mk (gS (w := w) hg); have n4_ := n3_; clear HO_5; clear HB; have HO_5 := n0_; have HB := n1_; have BK490 := n2_; have GW490 := n3_; have GE490 := n4_; clear n0_ n1_ n2_ n3_ n4_; clear hb hbox hg; obtain ⟨hcz34_0, hcz34_1, hcz34_2⟩ := cz3 BK490; obtain ⟨hfz34_0, hfz34_1, hfz34_2⟩ := fz3 BK490; obtain ⟨Ao35, co35, eo35⟩ := Kd.R_slice HO_5.out; subst eo35) | ((with_reducible refine gate_callee (f := 57) rfl ?_); refine goesL_ (some 22) rfl rfl Try.func57 (by kernel_rfl) rfl #[.slice Ao35 x5_1.length co35, .string ((rd_T62 l1 x14_1).f0)] rfl gA ?_; (with_reducible refine (impl_find.calls _ _ x5_1 ((rd_T62 l1 x14_1).f0) t491 false _ ?side1 ?side2 A8.out).mono ?_); (case side1 => refine (Kd.R_reads' (e := 55) (base := w.heap.size) (ok := fun k_ => True) (n := x5_1.length) (c := co35) ?_).2.2; exact (by (with_reducible repeat (first | apply Kd.R_alloc | apply Kd.R_drewN | apply Kd.R_drew)); exact (Kd.R_mono (Kd.R_far (p := ⟨gb490, 2, none⟩) (Kd.R_far (p := ⟨gb490, 1, none⟩) (Kd.R_far (p := ⟨gb490, 0, none⟩) (Kd.R_types HO_5.out BK490.out (by decide)) (fun _ hk => hk.2) (.string ((rd_T62 l1 x14_1).f0))) (fun _ hk => hk.2) (.int .i64 ((rd_T62 l1 x14_1).f1))) (fun _ hk => hk.2) (.bool true)) (fun _ h_ => h_.1)))); (case side2 => exact (Kd.R_reads' HO_5.out).2.1); rintro e w36 ⟨rfl, hb⟩; refine ⟨_, rfl, ?_⟩; have n0_ := Aside0.mk (Kd.R_below (by (with_reducible repeat (first | apply Kd.R_alloc | apply Kd.R_drewN | apply Kd.R_drew)); exact (Kd.R_mono (Kd.R_far (p := ⟨gb490, 2, none⟩) (Kd.R_far (p := ⟨gb490, 1, none⟩) (Kd.R_far (p := ⟨gb490, 0, none⟩) (Kd.R_types HO_5.out BK490.out (by decide)) (fun _ hk => hk.2) (.string ((rd_T62 l1 x14_1).f0))) (fun _ hk => hk.2) (.int .i64 ((rd_T62 l1 x14_1).f1))) (fun _ hk => hk.2) (.bool true)) (fun _ h_ => h_.1))) hb); have n1_ := Aside0.mk (blk_below (g := gb490) (o := .cells #[.string ((rd_T62 l1 x14_1).f0), .int .i64 ((rd_T62 l1 x14_1).f1), .bool true] 62 (0, 0)) (by (with_reducible repeat (first | refine blk_drewN ?_ _ | refine blk_drew ?_ | refine blk_alloc ?_ _)); refine blk_put (cs := #[.string ((rd_T62 l1 x14_1).f0), .int .i64 ((rd_T62 l1 x14_1).f1), .bool false]) ?_ 2 _ rfl; (with_reducible repeat (first | refine blk_drewN ?_ _ | refine blk_drew ?_ | refine blk_alloc ?_ _)); refine blk_put (cs := #[.string ((rd_T62 l1 x14_1).f0), .int .i64 0, .bool false]) ?_ 1 _ rfl; (with_reducible repeat (first | refine blk_drewN ?_ _ | refine blk_drew ?_ | refine blk_alloc ?_ _)); refine blk_put (cs := #[.string (⟨#[]⟩ : ByteArray), .int .i64 0, .bool false]) ?_ 0 _ rfl; (with_reducible repeat (first | refine blk_drewN ?_ _ | refine blk_drew ?_ | refine blk_alloc ?_ _)); exact BK490.out) hb); have n2_ := Aside0.mk (below_step (w := w) bW hb); clear HO_5; clear BK490; clear HB; have HO_5 := n0_; have BK490 := n1_; have HB := n2_; clear n0_ n1_ n2_; (try clear hb); (try clear hb2); (try clear hk); (try clear hi); obtain ⟨hcz37_0, hcz37_1, hcz37_2⟩ := cz3 BK490; obtain ⟨hfz37_0, hfz37_1, hfz37_2⟩ := fz3 BK490))
                go_roundg k1
                case measure => have := HK1.out; omega
                case rel => exact ⟨(x5_1), (wrap64 (x14_1 + 1)), vE, H', ⟨by have := HK1.out; omega⟩, ⟨by (with_reducible repeat (first | apply Kd.R_alloc | apply Kd.R_drewN | apply Kd.R_drew)); exact HO_5.out⟩, ⟨bW⟩⟩
              · replace c32 := Bool.eq_false_iff.mpr c32
                subst c32
                have H1 : ((impl_Entry_69.f x5_1 t491 (([(⟨(rd_T62 l1 x14_1).f0, (rd_T62 l1 x14_1).f1⟩ : S55)] : List (S55)))).bind fun t505 => (impl_edited.l0 k1 t505 l1 (l1.length : Int) (wrap64 (x14_1 + 1)))) = some r := by rw [if_neg (show ¬ (false = true) by decide)] at H; exact H
                clear H
                have H := H1
                clear H1
                obtain ⟨y502, hy502⟩ : ∃ y_ : List (S55), y_ = (([(⟨(rd_T62 l1 x14_1).f0, (rd_T62 l1 x14_1).f1⟩ : S55)] : List (S55))) := ⟨_, rfl⟩
                replace H : ((impl_Entry_69.f x5_1 t491 y502).bind fun t505 => (impl_edited.l0 k1 t505 l1 (l1.length : Int) (wrap64 (x14_1 + 1)))) = some r := by first | (rw [hy502]; with_reducible exact H) | (have H2_ := (Option.bind_some _ _).symm.trans H; rw [hy502]; with_reducible exact H2_) | (have H2_ := (Option.bind_some _ _).symm.trans H; with_reducible exact H2_) | with_reducible exact H | (rw [hy502]; exact H) | exact H
                have Ny502 := Aside0.mk hy502
                clear hy502
                replace H := Option.bind_eq_some_iff.mp H
                obtain ⟨t505, A380, H⟩ := H
                replace H : (impl_edited.l0 k1 t505 l1 (l1.length : Int) (wrap64 (x14_1 + 1))) = some r := H
                have A38 := Aside0.mk A380
                clear A380
                have H' := Aside0.mk H
                clear H
                have p489 : 0 ≤ (x14_1 : Int) := odt
                have q489 : x14_1 < (l1.length : Int) := odt
                obtain ⟨ad489, e489, hx489_0, hx489_1, hx489_2⟩ := at_T62 HR1.out x14_1 p489 q489
                (try rw [← Nbq31.out] at hx489_2)
                cases e489
                replace hx489_0 := (HB.out.cell (World.block_lt_of_cell? w _ hx489_0)).trans hx489_0
                replace hx489_1 := (HB.out.cell (World.block_lt_of_cell? w _ hx489_1)).trans hx489_1
                replace hx489_2 := (HB.out.cell (World.block_lt_of_cell? w _ hx489_2)).trans hx489_2
                replace p489 := eq_true p489
                replace q489 := eq_true q489
                go_wp2_with (first | ((with_reducible refine gate_dst (N := 7) rfl ?_); refine bE (N := 7) (cs := #[.string (⟨#[]⟩ : ByteArray), .int .i64 0, .bool false]) (t := 62) ?_; intro gb490 hg w39 hbox hb; have n0_ := Aside0.mk (Kd.R_below (pR HO_5) hb); have n1_ := Aside0.mk (below_step (w := w) bW hb); have n2_ := Aside0.mk (hbox); have n3_ := Aside0.mk (gS (w := w) hg); have n4_ := n3_; clear HO_5; clear HB; have HO_5 := n0_; have HB := n1_; have BK490 := n2_; have GW490 := n3_; have GE490 := n4_; clear n0_ n1_ n2_ n3_ n4_; clear hb hbox hg; obtain ⟨hcz40_0, hcz40_1, hcz40_2⟩ := cz3 BK490; obtain ⟨hfz40_0, hfz40_1, hfz40_2⟩ := fz3 BK490; obtain ⟨Ao41, co41, eo41⟩ := Kd.R_slice HO_5.out; subst eo41) | ((with_reducible refine gate_callee (f := 57) rfl ?_); refine goesL_ (some 22) rfl rfl Try.func57 (by kernel_rfl) rfl #[.slice Ao41 x5_1.length co41, .string ((rd_T62 l1 x14_1).f0)] rfl gA ?_; (with_reducible refine (impl_find.calls _ _ x5_1 ((rd_T62 l1 x14_1).f0) t491 false _ ?side1 ?side2 A8.out).mono ?_); (case side1 => refine (Kd.R_reads' (e := 55) (base := w.heap.size) (ok := fun k_ => True) (n := x5_1.length) (c := co41) ?_).2.2; exact (by (with_reducible repeat (first | apply Kd.R_alloc | apply Kd.R_drewN | apply Kd.R_drew)); exact (Kd.R_mono (Kd.R_far (p := ⟨gb490, 2, none⟩) (Kd.R_far (p := ⟨gb490, 1, none⟩) (Kd.R_far (p := ⟨gb490, 0, none⟩) (Kd.R_types HO_5.out BK490.out (by decide)) (fun _ hk => hk.2) (.string ((rd_T62 l1 x14_1).f0))) (fun _ hk => hk.2) (.int .i64 ((rd_T62 l1 x14_1).f1))) (fun _ hk => hk.2) (.bool false)) (fun _ h_ => h_.1)))); (case side2 => exact (Kd.R_reads' HO_5.out).2.1); rintro e w42 ⟨rfl, hb⟩; refine ⟨_, rfl, ?_⟩; have n0_ := Aside0.mk (Kd.R_below (by (with_reducible repeat (first | apply Kd.R_alloc | apply Kd.R_drewN | apply Kd.R_drew)); exact (Kd.R_mono (Kd.R_far (p := ⟨gb490, 2, none⟩) (Kd.R_far (p := ⟨gb490, 1, none⟩) (Kd.R_far (p := ⟨gb490, 0, none⟩) (Kd.R_types HO_5.out BK490.out (by decide)) (fun _ hk => hk.2) (.string ((rd_T62 l1 x14_1).f0))) (fun _ hk => hk.2) (.int .i64 ((rd_T62 l1 x14_1).f1))) (fun _ hk => hk.2) (.bool false)) (fun _ h_ => h_.1))) hb); have n1_ := Aside0.mk (blk_below (g := gb490) (o := .cells #[.string ((rd_T62 l1 x14_1).f0), .int .i64 ((rd_T62 l1 x14_1).f1), .bool false] 62 (0, 0)) (by (with_reducible repeat (first | refine blk_drewN ?_ _ | refine blk_drew ?_ | refine blk_alloc ?_ _)); refine blk_put (cs := #[.string ((rd_T62 l1 x14_1).f0), .int .i64 ((rd_T62 l1 x14_1).f1), .bool false]) ?_ 2 _ rfl; (with_reducible repeat (first | refine blk_drewN ?_ _ | refine blk_drew ?_ | refine blk_alloc ?_ _)); refine blk_put (cs := #[.string ((rd_T62 l1 x14_1).f0), .int .i64 0, .bool false]) ?_ 1 _ rfl; (with_reducible repeat (first | refine blk_drewN ?_ _ | refine blk_drew ?_ | refine blk_alloc ?_ _)); refine blk_put (cs := #[.string (⟨#[]⟩ : ByteArray), .int .i64 0, .bool false]) ?_ 0 _ rfl; (with_reducible repeat (first | refine blk_drewN ?_ _ | refine blk_drew ?_ | refine blk_alloc ?_ _)); exact BK490.out) hb); have n2_ := Aside0.mk (below_step (w := w) bW hb); clear HO_5; clear BK490; clear HB; have HO_5 := n0_; have BK490 := n1_; have HB := n2_; clear n0_ n1_ n2_; (try clear hb); (try clear hb2); (try clear hk); (try clear hi); obtain ⟨hcz43_0, hcz43_1, hcz43_2⟩ := cz3 BK490; obtain ⟨hfz43_0, hfz43_1, hfz43_2⟩ := fz3 BK490) | ((with_reducible refine gate_dst (N := 41) rfl ?_); refine Kd.R_lit k55 _ 55 ?hg (N := 41) ?hd (xs := ([(⟨(rd_T62 l1 x14_1).f0, (rd_T62 l1 x14_1).f1⟩ : S55)] : List (S55))) (inner := [.string ((rd_T62 l1 x14_1).f0), .int .i64 ((rd_T62 l1 x14_1).f1)]) (ok := fun _ => True) (okp := fun _ => True) ?hr ?hp (fun _ hk => hk) trivial (Below.refl _ _) (Nat.le_refl _) (by simp) ?_; (case hd => rfl); (case hg => rfl); (case hr => first | (go_simp; done) | (go_simp; rfl)); (case hp => exact (Reps.c2 (show Kd.M k55 _ _ _ (⟨(rd_T62 l1 x14_1).f0, (rd_T62 l1 x14_1).f1⟩ : S55) [.string ((rd_T62 l1 x14_1).f0), .int .i64 ((rd_T62 l1 x14_1).f1)] from (k55_mkM _ _ _ (⟨(rd_T62 l1 x14_1).f0, (rd_T62 l1 x14_1).f1⟩ : S55) )) (Reps.none _ _))); intro v503 w44 ho45 hb hg_ hnew_; clear hg_ hnew_; (first | rw [← Ny502.out] at ho45 | (simp only [Int.reduceToNat] at ho45; rw [← Ny502.out] at ho45)); have n0_ := Aside0.mk (Kd.R_elder' (pR HO_5) (Kd.R_base ho45) hb); have n1_ := Aside0.mk (Kd.R_lower (Kd.R_new' ho45 (Kd.R_lt (pR HO_5))) (below_size (w := w) bW)); have n2_ := Aside0.mk (kb BK490 hb); have n3_ := Aside0.mk (below_step (w := w) bW hb); clear HO_5; clear BK490; clear HB; have HO_5 := n0_; have HO504 := n1_; have BK490 := n2_; have HB := n3_; clear n0_ n1_ n2_ n3_; clear hb ho45; obtain ⟨Ao46, co46, eo46⟩ := Kd.R_slice HO504.out; subst eo46) | ((with_reducible refine gate_callee (f := 69) rfl ?_); refine goesL_ (some 42) rfl rfl Try.func69 (by kernel_rfl) rfl #[.slice Ao41 x5_1.length co41, .int .i64 t491, .slice Ao46 y502.length co46] rfl gA ?_; (with_reducible refine (impl_Entry_69.calls (fun k_ => some k_ = (.slice Ao41 x5_1.length co41 : Value).ownBlock) (.slice Ao41 x5_1.length co41) x5_1 t491 (fun k_ => some k_ = (.slice Ao46 y502.length co46 : Value).ownBlock) (.slice Ao46 y502.length co46) y502 t505 w _ ?side1 ?side2 ?side3 ?side4 ?side5 A38.out).mono ?_); (case side1 => repeat (first | (with_reducible first | exact HB.out | apply below_alloc | apply pw_below_drewN | apply below_drew1 | refine below_set ?_ GE490.out) | exact HB.out)); (case side2 => exact Kd.R_tight rfl HO_5.out); (case side3 => exact fun k_ e_ => (HO_5.out.1 k_ e_.symm).2); (case side4 => exact Kd.R_tight rfl HO504.out); (case side5 => exact fun k_ e_ => (HO504.out.1 k_ e_.symm).2); rintro e w47 ⟨v506, rfl, ho0, hb, hkp⟩; refine ⟨_, rfl, ?_⟩; have n0_ := Aside0.mk (blk_kept (kB BK490) hkp (fun hs_ => Or.elim hs_ (fun e_ => (fun e_ => (Kd.R_ne HO_5.out BK490.out (by decide)) e_) e_) (fun e_ => (fun e_ => (Kd.R_ne HO504.out BK490.out (by decide)) e_) e_))); have n1_ := Aside0.mk (Kd.R_mono (ok' := fun k_ => True) ho0 (fun k_ hk_ => trivial)); have n2_ := Aside0.mk (hb); clear BK490; clear HB; clear HO504; clear HO_5; have BK490 := n0_; have HO507 := n1_; have HB := n2_; clear n0_ n1_ n2_; (try clear hb); (try clear hkp); (try clear ho0)))
                go_roundg k1
                case measure => have := HK1.out; omega
                case rel => exact ⟨(t505), (wrap64 (x14_1 + 1)), vE, H', ⟨by have := HK1.out; omega⟩, ⟨by (with_reducible repeat (first | apply Kd.R_alloc | apply Kd.R_drewN | apply Kd.R_drew)); exact HO507.out⟩, ⟨bW⟩⟩
          · rw [if_neg c7] at H
            exact absurd H (by simp)
        · rw [if_neg c6] at H
          exact absurd H (by simp)
      · rw [if_neg c5] at H
        have c5b0 : decide (x14_1 < (l1.length : Int)) = false := decide_eq_false c5
        clear c5
        obtain rfl := Option.some.inj H
        go_wp2
        go_ret
        exact ⟨_, by first | rfl | (simp [errW_none, errW_some] <;> rfl) | (simp [*, errW_none, errW_some] <;> rfl), by (with_reducible repeat (first | apply Kd.R_alloc | apply Kd.R_drewN | apply Kd.R_drew)); exact HO_5.out, bW⟩
end Go.Proofs.Ytblejbgkcgajgaa.Q
end

section
namespace Go.Proofs.Ytblejbgkcgajgaa.Q
open Go.RowKit Go.Proofs.YtblejbgkcgajgaaW.PrintWords Go.Proofs.YtblejbgkcgajgaaW.PrintLast Go.Proofs.YtblejbgkcgajgaaW.PrintMore
attribute [local go_sem] max2_int min2_int max_two min_two max_three min_three max_four min_four   -- for this text's walks alone
set_option linter.unusedVariables false
set_option linter.unusedSimpArgs false
attribute [local go_sem] bin_leq bin_gtr bin_geq
def impl_limited.f (l0 : List (S55)) : Option ((List (S55)) × Int) := if (l0.length : Int) > 12 then (some (([] : List (S55)), 7)) else (some (l0, 0))
set_option maxHeartbeats 8000000 in
set_option maxRecDepth 100000 in
theorem impl_limited.calls (P0_ : Nat → Prop) (u9000_ : Value) (l0 : List (S55)) (r1 : List (S55)) (r2 : Int) (w0 w : World) (hB : Below w0.heap.size w0 w) (ho0 : Kd.R k55 55 w w0.heap.size P0_ u9000_ l0) (h : impl_limited.f l0 = some (r1, r2)) :
    Calls Try.prog 62 #[u9000_] w fun e w' => ∃ v0_ : Value, e = .returned (.tuple #[v0_, .int .i64 r2]) ∧ Kd.R k55 55 w' w0.heap.size (fun k_ => (P0_ k_ ∨ w.heap.size ≤ k_)) v0_ r1 ∧ Below w0.heap.size w0 w' ∧ Kept w w' (fun k_ => P0_ k_) := by
  have HO0 := Aside0.mk (show Kd.R k55 55 w w0.heap.size (fun k_ => (P0_ k_ ∨ w.heap.size ≤ k_)) u9000_ l0 from Kd.R_mono ho0 (fun k_ hk => (.inl hk)))
  have HK := Aside0.mk (Kept.refl w (fun k_ => P0_ k_))
  have HW0 := Aside0.mk hB.size
  have HB := Aside0.mk hB
  clear hB
  have H : (if (l0.length : Int) > 12 then (some (([] : List (S55)), 7)) else (some (l0, 0))) = some (r1, r2) := h
  clear h
  by_cases c2 : (l0.length : Int) > 12
  · rw [if_pos c2] at H
    have c2b0 : decide (12 < (l0.length : Int)) = true := decide_eq_true c2
    have c2b1 : decide (12 < l0.length) = true := decide_eq_true (by omega)
    clear c2
    simp only [Option.some.injEq, Prod.mk.injEq] at H
    obtain ⟨rfl, rfl⟩ := H
    obtain ⟨Ao3, co3, eo3⟩ := Kd.R_slice HO0.out
    subst eo3
    go_enter Try.func62, Try.ntmps62
    go_wp2
    go_ret2
    exact ⟨_, by first | rfl | (simp [errW_none, errW_some] <;> rfl) | (simp [*, errW_none, errW_some] <;> rfl), by first | exact Kd.R_nil _ _ _ _ _ | exact Kd.N_nil _ _ _ _ _ | exact Kd.V_nil _ _ _ _ _ | exact Kd.Q_nil _ _ _ _ _ | exact Kd.S_nil _ _ _ _ _, by repeat (first | (with_reducible first | exact HB.out | apply below_alloc | apply pw_below_drewN | apply below_drew1) | exact HB.out), by repeat (first | (with_reducible first | exact HK.out | apply Kept.alloc | apply Kept.drewN | apply Kept.drew) | exact HK.out)⟩
  · rw [if_neg c2] at H
    have c2b0 : decide (12 < (l0.length : Int)) = false := decide_eq_false c2
    have c2b1 : decide (12 < l0.length) = false := decide_eq_false (by omega)
    clear c2
    simp only [Option.some.injEq, Prod.mk.injEq] at H
    obtain ⟨rfl, rfl⟩ := H
    obtain ⟨Ao4, co4, eo4⟩ := Kd.R_slice HO0.out
    subst eo4
    go_enter Try.func62, Try.ntmps62
    go_wp2
    go_ret2
    exact ⟨_, by first | rfl | (simp [errW_none, errW_some] <;> rfl) | (simp [*, errW_none, errW_some] <;> rfl), by (with_reducible repeat (first | apply Kd.R_alloc | apply Kd.R_drewN | apply Kd.R_drew)); exact HO0.out, by repeat (first | (with_reducible first | exact HB.out | apply below_alloc | apply pw_below_drewN | apply below_drew1) | exact HB.out), by repeat (first | (with_reducible first | exact HK.out | apply Kept.alloc | apply Kept.drewN | apply Kept.drew) | exact HK.out)⟩
end Go.Proofs.Ytblejbgkcgajgaa.Q
end

section
namespace Go.Proofs.Ytblejbgkcgajgaa.Q
open Go.RowKit Go.Proofs.YtblejbgkcgajgaaW.PrintWords Go.Proofs.YtblejbgkcgajgaaW.PrintLast Go.Proofs.YtblejbgkcgajgaaW.PrintMore
attribute [local go_sem] max2_int min2_int max_two min_two max_three min_three max_four min_four   -- for this text's walks alone
set_option linter.unusedVariables false
set_option linter.unusedSimpArgs false
attribute [local go_sem] bin_leq bin_gtr bin_geq
def lastE (L : List S62) (key : ByteArray) : Option S62 := L.foldl (fun a e => if e.f0 = key then some e else a) none
def hasE (L : List S62) (key : ByteArray) : Bool := (lastE L key).isSome
def gotE (L : List S62) (key : ByteArray) : S62 := (lastE L key).getD ⟨⟨#[]⟩, 0, false⟩
def heldR (v : Value) : Option (DataW Value × List MemPlace) := some (.held v, [])
def ediV (e : S62) : Value := .agg #[.string e.f0, .int .i64 e.f1, .bool e.f2]
def mapD (L : List S62) : DataW Value := L.foldl (fun D e => D.put (.string e.f0.data.toList) (.held (ediV e))) (.map [])
def MapE (w : World) (B n : Nat) (L : List S62) : Prop := w.ownsMap Try.prog 9 heldR B n (mapD L)
theorem lastE_snoc (L : List S62) (e : S62) (key : ByteArray) : lastE (L ++ [e]) key = if e.f0 = key then some e else lastE L key := by simp [lastE, List.foldl_append]
theorem mapD_snoc (L : List S62) (e : S62) : mapD (L ++ [e]) = (mapD L).put (.string e.f0.data.toList) (.held (ediV e)) := by simp [mapD, List.foldl_append]
theorem mapD_all (m : Nat) : ∀ L : List S62, L.length = m → Go.Maps.IsMap (mapD L) ∧ ∀ key : ByteArray, Go.Maps.has (mapD L) (.string key.data.toList) = hasE L key ∧ ∀ z, (mapD L).atKey (.string key.data.toList) (.held z) = .held (match lastE L key with | some x => ediV x | none => z) := by
  induction m with
  | zero =>
    intro L hL
    obtain rfl := List.eq_nil_of_length_eq_zero hL
    exact ⟨⟨[], rfl⟩, fun key => ⟨rfl, fun z => rfl⟩⟩
  | succ m ih =>
    intro L hL
    have hne : L ≠ [] := by intro h; rw [h] at hL; simp at hL
    obtain ⟨I, e, rfl⟩ : ∃ I e, L = I ++ [e] := ⟨L.dropLast, L.getLast hne, (List.dropLast_concat_getLast hne).symm⟩
    obtain ⟨h1, h2⟩ := ih I (by simpa using hL)
    rw [mapD_snoc]
    refine ⟨h1.put _ _, fun key => ?_⟩
    rw [lastE_snoc]
    unfold hasE
    rw [lastE_snoc]
    by_cases hk : e.f0 = key
    · subst hk
      refine ⟨by rw [Go.Maps.has_put_same h1 (by trivial), if_pos rfl]; rfl, fun z => ?_⟩
      rw [Go.Maps.atKey_put_same h1 (by trivial), if_pos rfl]
    · have hne2 : (Lit.string key.data.toList) ≠ Lit.string e.f0.data.toList := by
        intro h
        injection h with h
        apply hk
        have h5 : e.f0.data = key.data := Array.ext' h.symm
        cases hA : e.f0
        cases hB : key
        rw [hA, hB] at h5
        exact congrArg ByteArray.mk h5
      refine ⟨by rw [Go.Maps.has_put_other hne2, if_neg hk]; exact (h2 key).1, fun z => ?_⟩
      rw [Go.Maps.atKey_put_other hne2, if_neg hk]
      exact (h2 key).2 z
theorem MapE_made (w : World) : MapE (w.alloc (.map #[] 0)) w.heap.size 0 [] := World.ownsMap_made w _ _ _
theorem MapE_lt {w : World} {B n : Nat} {L : List S62} (h : MapE w B n L) : B < w.heap.size := World.ownsMap.lt h
theorem MapE_alloc {w : World} {B n : Nat} {L : List S62} (h : MapE w B n L) (o : Obj) : MapE (w.alloc o) B n L := World.ownsMap.alloc h o
theorem MapE_grown {w w' : World} {B n : Nat} {L : List S62} {row : Option Nat} (h : MapE w B n L) (hg : w.grownBy w' row) (hne : some B ≠ row) : MapE w' B n L := World.ownsMap.kept h hg hne
theorem MapE_below {w w' : World} {B n : Nat} {L : List S62} (h : MapE w B n L) (hb : Below w.heap.size w w') : MapE w' B n L := World.ownsMap.kept h (grown_of_below hb none) (by simp)
theorem zeroEd (w : World) : (zeroValue 62).run Try.prog w = .ok (.agg #[.string ⟨#[]⟩, .int .i64 0, .bool false]) w := Try.zeroValue62 w
section
variable (w : World) {ops : Array Oper} {rest : List Oper} {o : Oper} {a : Act} {Q : Exit → Act → World → Prop}
theorem wpList_lookup_E (hg : o.guard = none) (m x : Operand) (hop : o.op = Op.lookup 83 m x true) (B n : Nat) (L : List S62) (hm : a.eval m = .map (some B)) (hown : MapE w B n L) (key : ByteArray) (hx : a.eval x = .string key) (hk : key.size ≤ maxLen)
    (y : S62) (b : Bool) (hy : gotE L key = y) (hb : hasE L key = b)
    (hK : wpList Try.prog ops Q rest (a.put o.dst (.tuple #[.agg #[.string y.f0, .int .i64 y.f1, .bool y.f2], .bool b])) w) :
    wpList Try.prog ops Q (o :: rest) a w :=
  wpList_lookup_own_ok w hg m x _ hop 9 62 (Go.Maps.string_keyed Try.underlying9) Try.underlying83 heldR (zeroEd w) _ [] rfl B n (mapD L) hm hown (.string key) (.string key.data.toList) hx (Go.WideMaps.keyOf_string_mk Try.underlying9 hk) (fun v ps hv => by
    obtain ⟨h1, h2⟩ := (mapD_all L.length L rfl).2 key
    rw [h2, heldR] at hv
    have e1 := congrArg Prod.fst (Option.some.inj hv)
    simp only at e1
    injection e1 with e2
    have e3 : v = .agg #[.string y.f0, .int .i64 y.f1, .bool y.f2] := by
      rw [e2, ← hy]
      unfold gotE
      cases lastE L key <;> rfl
    rw [e3, h1, hb]
    exact hK)
theorem wpList_update_E (hg : o.guard = none) (m x v : Operand) (hop : o.op = Op.mapUpdate 83 m x v) (B n : Nat) (L : List S62) (hm : a.eval m = .map (some B)) (hown : MapE w B n L) (hn : n < maxLen) (e : S62) (hx : a.eval x = .string e.f0) (hv : a.eval v = ediV e) (hk : e.f0.size ≤ maxLen)
    (hK : ∀ w', MapE w' B (n + 1) (L ++ [e]) → w.grownBy w' (some B) → wpList Try.prog ops Q rest (a.put o.dst undef) w') :
    wpList Try.prog ops Q (o :: rest) a w :=
  wpList_mapUpdate_own w hg m x v _ hop 9 62 (Go.Maps.string_keyed Try.underlying9) Try.underlying83 heldR B n (mapD L) hm hown hn (.string e.f0) (ediV e) (.string e.f0.data.toList) hx hv (Go.WideMaps.keyOf_string_mk Try.underlying9 hk) (.held (ediV e)) [] rfl (fun w' h1 h2 => hK w' (by unfold MapE; rw [mapD_snoc]; exact h1) h2)
end
def neE (x e : S62) : Bool := !(x.f0.toList == e.f0.toList) || (!(x.f1 == e.f1) || !(x.f2 == e.f2))
def mstep (L : List S62) (oc : List S62 × List ByteArray) (e : S62) : List S62 × List ByteArray :=
  if hasE L e.f0 = true then (if neE (gotE L e.f0) e = true then (oc.1, oc.2 ++ [e.f0]) else oc) else (oc.1 ++ [e], oc.2)
def mrg (L R : List S62) : List S62 × List ByteArray := R.foldl (mstep L) ([], [])
theorem mrg_take (L R : List S62) (i : Nat) (hi : i < R.length) : mrg L (R.take (i + 1)) = mstep L (mrg L (R.take i)) R[i] := by
  unfold mrg
  rw [List.take_succ_eq_append_getElem hi, List.foldl_append]
  rfl
theorem mrg_len (L R : List S62) (i : Nat) (hi : i ≤ R.length) : (mrg L (R.take i)).1.length ≤ i ∧ (mrg L (R.take i)).2.length ≤ i := by
  induction i with
  | zero => simp [mrg]
  | succ i ih =>
    have h := ih (by omega)
    rw [mrg_take L R i hi]
    unfold mstep
    split
    · split
      · simp only [List.length_append, List.length_cons, List.length_nil]; omega
      · omega
    · simp only [List.length_append, List.length_cons, List.length_nil]; omega
def small (L R : List S62) : Bool := (L ++ R).all (fun e => decide (e.f0.size ≤ 1000000)) && decide (L.length + R.length ≤ 1000000)
end Go.Proofs.Ytblejbgkcgajgaa.Q
end
