/- Parts of the proof of the law FnExactMergeCommits, joined into one text. -/
import Derived.Test.YtblejbgkcgajgaaGreatMFnExactMergeCommits4
section
namespace Go.Proofs.YtblejbgkcgajgaaGreat.Q
open Go.RowKit Go.Proofs.YtblejbgkcgajgaaGreatW.PrintWords Go.Proofs.YtblejbgkcgajgaaGreatW.PrintLast Go.Proofs.YtblejbgkcgajgaaGreatW.PrintMore
attribute [local go_sem] max2_int min2_int max_two min_two max_three min_three max_four min_four   -- for this text's walks alone
set_option linter.unusedVariables false
set_option linter.unusedSimpArgs false
attribute [local go_sem] bin_leq bin_gtr bin_geq
def impl_edited.l0 : Nat → List (S84) → List (S68) → Int → Int → Option ((List (S84)))
  | 0, _, _, _, _ => none
  | k + 1, x5, x12, x13, x14 => if x14 < x13 then (if 0 ≤ x14 then (if x14 < (x12.length : Int) then ((impl_find.f x5 ((rd_T68 x12 x14).f0)).bind fun bt611 => (if bt611.2 = true then ((impl_Entry_125.f x5 bt611.1 (wrap64 (bt611.1 + 1))).bind fun t613 => (if ((rd_T68 x12 x14).f2 = true) then (impl_edited.l0 k t613 x12 x13 (wrap64 (x14 + 1))) else ((impl_Entry_126.f t613 bt611.1 (([(⟨(rd_T68 x12 x14).f0, (rd_T68 x12 x14).f1⟩ : S84)] : List (S84)))).bind fun t619 => (impl_edited.l0 k t619 x12 x13 (wrap64 (x14 + 1)))))) else (if ((rd_T68 x12 x14).f2 = true) then (impl_edited.l0 k x5 x12 x13 (wrap64 (x14 + 1))) else ((impl_Entry_126.f x5 bt611.1 (([(⟨(rd_T68 x12 x14).f0, (rd_T68 x12 x14).f1⟩ : S84)] : List (S84)))).bind fun t625 => (impl_edited.l0 k t625 x12 x13 (wrap64 (x14 + 1))))))) else (none)) else (none)) else (some x5)
def impl_edited.f (k : Nat) (l0 : List (S84)) (l1 : List (S68)) : Option ((List (S84))) := (impl_Entry_124.f l0).bind fun t606 => (impl_edited.l0 k t606 l1 (l1.length : Int) 0)
set_option maxHeartbeats 8000000 in
set_option maxRecDepth 100000 in
theorem impl_edited.calls (k : Nat) (A0 : Option Addr) (c0 : Nat) (l0 : List (S84)) (A1 : Option Addr) (c1 : Nat) (l1 : List (S68)) (r : List (S84)) (w : World) (hr0 : Kd.C k84 w A0 l0.length l0) (hc0 : l0.length ≤ c0) (hr1 : Kd.C k68 w A1 l1.length l1) (hc1 : l1.length ≤ c1) (h : impl_edited.f k l0 l1 = some r) :
    Calls Tryz.prog 103 #[.slice A0 l0.length c0, .slice A1 l1.length c1] w fun e w' => ∃ v0_ : Value, e = .returned (v0_) ∧ Kd.R k84 84 w' w.heap.size (fun _ => True) v0_ r ∧ Below w.heap.size w w' := by
  have hu68 := Tryz.underlying68
  have hu84 := Tryz.underlying84
  have HR0 := Aside0.mk hr0
  have HC0 := Aside0.mk hc0
  clear hr0 hc0
  have HR1 := Aside0.mk hr1
  have HC1 := Aside0.mk hc1
  clear hr1 hc1
  have HB := Aside0.mk (Below.refl w.heap.size w)
  have H : ((impl_Entry_124.f l0).bind fun t606 => (impl_edited.l0 k t606 l1 (l1.length : Int) 0)) = some r := h
  clear h
  replace H := Option.bind_eq_some_iff.mp H
  obtain ⟨t606, A30, H⟩ := H
  replace H : (impl_edited.l0 k t606 l1 (l1.length : Int) 0) = some r := H
  have A3 := Aside0.mk A30
  clear A30
  have H' := Aside0.mk H
  clear H
  go_enter Tryz.func103, Tryz.ntmps103
  go_wp2_with (((with_reducible refine gate_callee (f := 124) rfl ?_); refine goesL_ (some 11) rfl rfl Tryz.func124 (by kernel_rfl) rfl #[.slice A0 l0.length c0] rfl gA ?_; (with_reducible refine (impl_Entry_124.calls _ _ l0 t606 _ ?side1 ?side2 A3.out).mono ?_); (case side1 => exact cN HR0); (case side2 => exact HC0.out); rintro e w4 ⟨v607, rfl, ho0, hb⟩; refine ⟨_, rfl, ?_⟩; have n0_ := Aside0.mk (Kd.R_lower ho0 (below_size (w := w) bW)); have n1_ := Aside0.mk (below_step (w := w) bW hb); clear HB; have HO608 := n0_; have HB := n1_; clear n0_ n1_; (try clear hb); (try clear ho0)))
  go_loopg [5, 14] k (fun kq v5 v14 w' => ∃ (x5_1 : List (S84)) (x14_1 : Int), v14 = .int .i64 x14_1 ∧ Aside0 (impl_edited.l0 kq x5_1 l1 (l1.length : Int) x14_1 = some r) ∧ Aside0 (kq ≤ k) ∧ Aside0 (Kd.R k84 84 w' w.heap.size (fun _ => True) v5 x5_1) ∧ Aside0 (Below w.heap.size w w'))
  case atStart => exact ⟨(t606), (0), vE, H', ⟨Nat.le_refl _⟩, ⟨by exact HO608.out⟩, ⟨bW⟩⟩
  case round =>
    clear H'
    obtain ⟨x5_1, x14_1, rfl, HA, HK1, HO_5, HB⟩ := hrel
    cases gk with
    | zero => exact absurd HA.out (by simp [impl_edited.l0])
    | succ k1 =>
      have H := HA.out
      clear HA
      simp only [impl_edited.l0] at H
      by_cases c5 : x14_1 < (l1.length : Int)
      · rw [if_pos c5] at H
        have c5b0 : decide (x14_1 < (l1.length : Int)) = true := decide_eq_true c5
        clear c5
        by_cases c6 : 0 ≤ x14_1
        · rw [if_pos c6] at H
          have c6b0 : decide (0 ≤ x14_1) = true := decide_eq_true c6
          clear c6
          by_cases c7 : x14_1 < (l1.length : Int)
          · rw [if_pos c7] at H
            have c7b0 : decide (x14_1 < (l1.length : Int)) = true := decide_eq_true c7
            clear c7
            replace H := Option.bind_eq_some_iff.mp H
            obtain ⟨⟨t611, t612⟩, A80, H⟩ := H
            replace H : (if t612 = true then ((impl_Entry_125.f x5_1 t611 (wrap64 (t611 + 1))).bind fun t613 => (if ((rd_T68 l1 x14_1).f2 = true) then (impl_edited.l0 k1 t613 l1 (l1.length : Int) (wrap64 (x14_1 + 1))) else ((impl_Entry_126.f t613 t611 (([(⟨(rd_T68 l1 x14_1).f0, (rd_T68 l1 x14_1).f1⟩ : S84)] : List (S84)))).bind fun t619 => (impl_edited.l0 k1 t619 l1 (l1.length : Int) (wrap64 (x14_1 + 1)))))) else (if ((rd_T68 l1 x14_1).f2 = true) then (impl_edited.l0 k1 x5_1 l1 (l1.length : Int) (wrap64 (x14_1 + 1))) else ((impl_Entry_126.f x5_1 t611 (([(⟨(rd_T68 l1 x14_1).f0, (rd_T68 l1 x14_1).f1⟩ : S84)] : List (S84)))).bind fun t625 => (impl_edited.l0 k1 t625 l1 (l1.length : Int) (wrap64 (x14_1 + 1)))))) = some r := H
            have A8 := Aside0.mk A80
            clear A80
            by_cases c9 : t612 = true
            · subst c9
              have H1 : ((impl_Entry_125.f x5_1 t611 (wrap64 (t611 + 1))).bind fun t613 => (if ((rd_T68 l1 x14_1).f2 = true) then (impl_edited.l0 k1 t613 l1 (l1.length : Int) (wrap64 (x14_1 + 1))) else ((impl_Entry_126.f t613 t611 (([(⟨(rd_T68 l1 x14_1).f0, (rd_T68 l1 x14_1).f1⟩ : S84)] : List (S84)))).bind fun t619 => (impl_edited.l0 k1 t619 l1 (l1.length : Int) (wrap64 (x14_1 + 1)))))) = some r := by rw [if_pos rfl] at H; exact H
              clear H
              have H := H1
              clear H1
              replace H := Option.bind_eq_some_iff.mp H
              obtain ⟨t613, A100, H⟩ := H
              replace H : (if ((rd_T68 l1 x14_1).f2 = true) then (impl_edited.l0 k1 t613 l1 (l1.length : Int) (wrap64 (x14_1 + 1))) else ((impl_Entry_126.f t613 t611 (([(⟨(rd_T68 l1 x14_1).f0, (rd_T68 l1 x14_1).f1⟩ : S84)] : List (S84)))).bind fun t619 => (impl_edited.l0 k1 t619 l1 (l1.length : Int) (wrap64 (x14_1 + 1))))) = some r := H
              have A10 := Aside0.mk A100
              clear A100
              obtain ⟨bq11, hbq11⟩ : ∃ b_ : Bool, b_ = ((rd_T68 l1 x14_1).f2) := ⟨_, rfl⟩
              replace H : (if (bq11 = true) then (impl_edited.l0 k1 t613 l1 (l1.length : Int) (wrap64 (x14_1 + 1))) else ((impl_Entry_126.f t613 t611 (([(⟨(rd_T68 l1 x14_1).f0, (rd_T68 l1 x14_1).f1⟩ : S84)] : List (S84)))).bind fun t619 => (impl_edited.l0 k1 t619 l1 (l1.length : Int) (wrap64 (x14_1 + 1))))) = some r := by rw [← hbq11] at H; exact H
              have Nbq11 := Aside0.mk hbq11
              clear hbq11
              by_cases c12 : (bq11 = true)
              · subst c12
                have H1 : (impl_edited.l0 k1 t613 l1 (l1.length : Int) (wrap64 (x14_1 + 1))) = some r := by rw [if_pos rfl] at H; exact H
                clear H
                have H := H1
                clear H1
                have H' := Aside0.mk H
                clear H
                have p609 : 0 ≤ (x14_1 : Int) := odt
                have q609 : x14_1 < (l1.length : Int) := odt
                obtain ⟨ad609, e609, hx609_0, hx609_1, hx609_2⟩ := at_T68 HR1.out x14_1 p609 q609
                (try rw [← Nbq11.out] at hx609_2)
                cases e609
                replace hx609_0 := (HB.out.cell (World.block_lt_of_cell? w _ hx609_0)).trans hx609_0
                replace hx609_1 := (HB.out.cell (World.block_lt_of_cell? w _ hx609_1)).trans hx609_1
                replace hx609_2 := (HB.out.cell (World.block_lt_of_cell? w _ hx609_2)).trans hx609_2
                replace p609 := eq_true p609
                replace q609 := eq_true q609
                go_wp2_with (first | ((with_reducible refine gate_dst (N := 7) rfl ?_); refine bE (N := 7) (cs := #[.string (⟨#[]⟩ : ByteArray), .int .i64 0, .bool false]) (t := 68) ?_; intro gb610 hg w13 hbox hb; have n0_ := Aside0.mk (Kd.R_below (pR HO_5) hb); have n1_ := Aside0.mk (below_step (w := w) bW hb); have n2_ := Aside0.mk (hbox); have n3_ := Aside0.mk (gS (w := w) hg); have n4_ := n3_; clear HO_5; clear HB; have HO_5 := n0_; have HB := n1_; have BK610 := n2_; have GW610 := n3_; have GE610 := n4_; clear n0_ n1_ n2_ n3_ n4_; clear hb hbox hg; obtain ⟨hcz14_0, hcz14_1, hcz14_2⟩ := cz3 BK610; obtain ⟨hfz14_0, hfz14_1, hfz14_2⟩ := fz3 BK610; obtain ⟨Ao15, co15, eo15⟩ := Kd.R_slice HO_5.out; subst eo15) | ((with_reducible refine gate_callee (f := 59) rfl ?_); refine goesL_ (some 22) rfl rfl Tryz.func59 (by kernel_rfl) rfl #[.slice Ao15 x5_1.length co15, .string ((rd_T68 l1 x14_1).f0)] rfl gA ?_; (with_reducible refine (impl_find.calls _ _ x5_1 ((rd_T68 l1 x14_1).f0) t611 true _ ?side1 ?side2 A8.out).mono ?_); (case side1 => refine (Kd.R_reads' (e := 84) (base := w.heap.size) (ok := fun k_ => True) (n := x5_1.length) (c := co15) ?_).2.2; exact (by exact (Kd.R_mono (Kd.R_far (p := ⟨gb610, 2, none⟩) (Kd.R_far (p := ⟨gb610, 1, none⟩) (Kd.R_far (p := ⟨gb610, 0, none⟩) (Kd.R_types HO_5.out BK610.out (by decide)) (fun _ hk => hk.2) (.string ((rd_T68 l1 x14_1).f0))) (fun _ hk => hk.2) (.int .i64 ((rd_T68 l1 x14_1).f1))) (fun _ hk => hk.2) (.bool true)) (fun _ h_ => h_.1)))); (case side2 => exact (Kd.R_reads' HO_5.out).2.1); rintro e w16 ⟨rfl, hb⟩; refine ⟨_, rfl, ?_⟩; have n0_ := Aside0.mk (Kd.R_below (by exact (Kd.R_mono (Kd.R_far (p := ⟨gb610, 2, none⟩) (Kd.R_far (p := ⟨gb610, 1, none⟩) (Kd.R_far (p := ⟨gb610, 0, none⟩) (Kd.R_types HO_5.out BK610.out (by decide)) (fun _ hk => hk.2) (.string ((rd_T68 l1 x14_1).f0))) (fun _ hk => hk.2) (.int .i64 ((rd_T68 l1 x14_1).f1))) (fun _ hk => hk.2) (.bool true)) (fun _ h_ => h_.1))) hb); have n1_ := Aside0.mk (blk_below (g := gb610) (o := .cells #[.string ((rd_T68 l1 x14_1).f0), .int .i64 ((rd_T68 l1 x14_1).f1), .bool true] 68 (0, 0)) (by refine blk_put (cs := #[.string ((rd_T68 l1 x14_1).f0), .int .i64 ((rd_T68 l1 x14_1).f1), .bool false]) ?_ 2 _ rfl; refine blk_put (cs := #[.string ((rd_T68 l1 x14_1).f0), .int .i64 0, .bool false]) ?_ 1 _ rfl; refine blk_put (cs := #[.string (⟨#[]⟩ : ByteArray), .int .i64 0, .bool false]) ?_ 0 _ rfl; exact BK610.out) hb); have n2_ := Aside0.mk (below_step (w := w) bW hb); clear HO_5; clear BK610; clear HB; have HO_5 := n0_; have BK610 := n1_; have HB := n2_; clear n0_ n1_ n2_; (try clear hb)) | ((with_reducible refine gate_callee (f := 125) rfl ?_); refine goesL_ (some 30) rfl rfl Tryz.func125 (by kernel_rfl) rfl #[.slice Ao15 x5_1.length co15, .int .i64 t611, .int .i64 (wrap64 (t611 + 1))] rfl gA ?_; (with_reducible refine (impl_Entry_125.calls (fun k_ => some k_ = (.slice Ao15 x5_1.length co15 : Value).ownBlock) (.slice Ao15 x5_1.length co15) x5_1 t611 (wrap64 (t611 + 1)) t613 w _ ?side1 ?side2 A10.out).mono ?_); (case side1 => repeat ((with_reducible exact HB.out))); (case side2 => exact Kd.R_tight rfl HO_5.out); rintro e w17 ⟨v614, rfl, ho0, hb, hkp⟩; refine ⟨_, rfl, ?_⟩; have n0_ := Aside0.mk (blk_kept (kB BK610) hkp (fun hs_ => (fun e_ => (Kd.R_ne HO_5.out BK610.out (by decide)) e_) hs_)); have n1_ := Aside0.mk (Kd.R_mono (ok' := fun k_ => True) ho0 (fun k_ hk_ => trivial)); have n2_ := Aside0.mk (hb); clear BK610; clear HB; clear HO_5; have BK610 := n0_; have HO615 := n1_; have HB := n2_; clear n0_ n1_ n2_; (try clear hb); (try clear hkp); (try clear ho0); obtain ⟨hcz18_0, hcz18_1, hcz18_2⟩ := cz3 BK610; obtain ⟨hfz18_0, hfz18_1, hfz18_2⟩ := fz3 BK610))
                go_roundg k1
                case measure => have := HK1.out; omega
                case rel => exact ⟨(t613), (wrap64 (x14_1 + 1)), vE, H', ⟨by have := HK1.out; omega⟩, ⟨by exact HO615.out⟩, ⟨bW⟩⟩
              · replace c12 := Bool.eq_false_iff.mpr c12
                subst c12
                have H1 : ((impl_Entry_126.f t613 t611 (([(⟨(rd_T68 l1 x14_1).f0, (rd_T68 l1 x14_1).f1⟩ : S84)] : List (S84)))).bind fun t619 => (impl_edited.l0 k1 t619 l1 (l1.length : Int) (wrap64 (x14_1 + 1)))) = some r := by rw [if_neg (show ¬ (false = true) by decide)] at H; exact H
                clear H
                have H := H1
                clear H1
                obtain ⟨y616, hy616⟩ : ∃ y_ : List (S84), y_ = (([(⟨(rd_T68 l1 x14_1).f0, (rd_T68 l1 x14_1).f1⟩ : S84)] : List (S84))) := ⟨_, rfl⟩
                replace H : ((impl_Entry_126.f t613 t611 y616).bind fun t619 => (impl_edited.l0 k1 t619 l1 (l1.length : Int) (wrap64 (x14_1 + 1)))) = some r := by (rw [hy616]; with_reducible exact H)
                have Ny616 := Aside0.mk hy616
                clear hy616
                replace H := Option.bind_eq_some_iff.mp H
                obtain ⟨t619, A190, H⟩ := H
                replace H : (impl_edited.l0 k1 t619 l1 (l1.length : Int) (wrap64 (x14_1 + 1))) = some r := H
                have A19 := Aside0.mk A190
                clear A190
                have H' := Aside0.mk H
                clear H
                have p609 : 0 ≤ (x14_1 : Int) := odt
                have q609 : x14_1 < (l1.length : Int) := odt
                obtain ⟨ad609, e609, hx609_0, hx609_1, hx609_2⟩ := at_T68 HR1.out x14_1 p609 q609
                (try rw [← Nbq11.out] at hx609_2)
                cases e609
                replace hx609_0 := (HB.out.cell (World.block_lt_of_cell? w _ hx609_0)).trans hx609_0
                replace hx609_1 := (HB.out.cell (World.block_lt_of_cell? w _ hx609_1)).trans hx609_1
                replace hx609_2 := (HB.out.cell (World.block_lt_of_cell? w _ hx609_2)).trans hx609_2
                replace p609 := eq_true p609
                replace q609 := eq_true q609
                go_wp2_with (first | ((with_reducible refine gate_dst (N := 7) rfl ?_); refine bE (N := 7) (cs := #[.string (⟨#[]⟩ : ByteArray), .int .i64 0, .bool false]) (t := 68) ?_; intro gb610 hg w20 hbox hb; have n0_ := Aside0.mk (Kd.R_below (pR HO_5) hb); have n1_ := Aside0.mk (below_step (w := w) bW hb); have n2_ := Aside0.mk (hbox); have n3_ := Aside0.mk (gS (w := w) hg); have n4_ := n3_; clear HO_5; clear HB; have HO_5 := n0_; have HB := n1_; have BK610 := n2_; have GW610 := n3_; have GE610 := n4_; clear n0_ n1_ n2_ n3_ n4_; clear hb hbox hg; obtain ⟨hcz21_0, hcz21_1, hcz21_2⟩ := cz3 BK610; obtain ⟨hfz21_0, hfz21_1, hfz21_2⟩ := fz3 BK610; obtain ⟨Ao22, co22, eo22⟩ := Kd.R_slice HO_5.out; subst eo22) | ((with_reducible refine gate_callee (f := 59) rfl ?_); refine goesL_ (some 22) rfl rfl Tryz.func59 (by kernel_rfl) rfl #[.slice Ao22 x5_1.length co22, .string ((rd_T68 l1 x14_1).f0)] rfl gA ?_; (with_reducible refine (impl_find.calls _ _ x5_1 ((rd_T68 l1 x14_1).f0) t611 true _ ?side1 ?side2 A8.out).mono ?_); (case side1 => refine (Kd.R_reads' (e := 84) (base := w.heap.size) (ok := fun k_ => True) (n := x5_1.length) (c := co22) ?_).2.2; exact (by exact (Kd.R_mono (Kd.R_far (p := ⟨gb610, 2, none⟩) (Kd.R_far (p := ⟨gb610, 1, none⟩) (Kd.R_far (p := ⟨gb610, 0, none⟩) (Kd.R_types HO_5.out BK610.out (by decide)) (fun _ hk => hk.2) (.string ((rd_T68 l1 x14_1).f0))) (fun _ hk => hk.2) (.int .i64 ((rd_T68 l1 x14_1).f1))) (fun _ hk => hk.2) (.bool false)) (fun _ h_ => h_.1)))); (case side2 => exact (Kd.R_reads' HO_5.out).2.1); rintro e w23 ⟨rfl, hb⟩; refine ⟨_, rfl, ?_⟩; have n0_ := Aside0.mk (Kd.R_below (by exact (Kd.R_mono (Kd.R_far (p := ⟨gb610, 2, none⟩) (Kd.R_far (p := ⟨gb610, 1, none⟩) (Kd.R_far (p := ⟨gb610, 0, none⟩) (Kd.R_types HO_5.out BK610.out (by decide)) (fun _ hk => hk.2) (.string ((rd_T68 l1 x14_1).f0))) (fun _ hk => hk.2) (.int .i64 ((rd_T68 l1 x14_1).f1))) (fun _ hk => hk.2) (.bool false)) (fun _ h_ => h_.1))) hb); have n1_ := Aside0.mk (blk_below (g := gb610) (o := .cells #[.string ((rd_T68 l1 x14_1).f0), .int .i64 ((rd_T68 l1 x14_1).f1), .bool false] 68 (0, 0)) (by refine blk_put (cs := #[.string ((rd_T68 l1 x14_1).f0), .int .i64 ((rd_T68 l1 x14_1).f1), .bool false]) ?_ 2 _ rfl; refine blk_put (cs := #[.string ((rd_T68 l1 x14_1).f0), .int .i64 0, .bool false]) ?_ 1 _ rfl; refine blk_put (cs := #[.string (⟨#[]⟩ : ByteArray), .int .i64 0, .bool false]) ?_ 0 _ rfl; exact BK610.out) hb); have n2_ := Aside0.mk (below_step (w := w) bW hb); clear HO_5; clear BK610; clear HB; have HO_5 := n0_; have BK610 := n1_; have HB := n2_; clear n0_ n1_ n2_; (try clear hb)) | ((with_reducible refine gate_callee (f := 125) rfl ?_); refine goesL_ (some 30) rfl rfl Tryz.func125 (by kernel_rfl) rfl #[.slice Ao22 x5_1.length co22, .int .i64 t611, .int .i64 (wrap64 (t611 + 1))] rfl gA ?_; (with_reducible refine (impl_Entry_125.calls (fun k_ => some k_ = (.slice Ao22 x5_1.length co22 : Value).ownBlock) (.slice Ao22 x5_1.length co22) x5_1 t611 (wrap64 (t611 + 1)) t613 w _ ?side1 ?side2 A10.out).mono ?_); (case side1 => repeat ((with_reducible exact HB.out))); (case side2 => exact Kd.R_tight rfl HO_5.out); rintro e w24 ⟨v614, rfl, ho0, hb, hkp⟩; refine ⟨_, rfl, ?_⟩; have n0_ := Aside0.mk (blk_kept (kB BK610) hkp (fun hs_ => (fun e_ => (Kd.R_ne HO_5.out BK610.out (by decide)) e_) hs_)); have n1_ := Aside0.mk (Kd.R_mono (ok' := fun k_ => True) ho0 (fun k_ hk_ => trivial)); have n2_ := Aside0.mk (hb); clear BK610; clear HB; clear HO_5; have BK610 := n0_; have HO615 := n1_; have HB := n2_; clear n0_ n1_ n2_; (try clear hb); (try clear hkp); (try clear ho0); obtain ⟨hcz25_0, hcz25_1, hcz25_2⟩ := cz3 BK610; obtain ⟨hfz25_0, hfz25_1, hfz25_2⟩ := fz3 BK610) | ((with_reducible refine gate_dst (N := 41) rfl ?_); refine Kd.R_lit k84 _ 84 ?hg (N := 41) ?hd (xs := ([(⟨(rd_T68 l1 x14_1).f0, (rd_T68 l1 x14_1).f1⟩ : S84)] : List (S84))) (inner := [.string ((rd_T68 l1 x14_1).f0), .int .i64 ((rd_T68 l1 x14_1).f1)]) (ok := fun _ => True) (okp := fun _ => True) ?hr ?hp (fun _ hk => hk) trivial (Below.refl _ _) (Nat.le_refl _) (by simp) ?_; (case hd => rfl); (case hg => rfl); (case hr => (go_simp; done)); (case hp => exact (Reps.c2 (show Kd.M k84 _ _ _ (⟨(rd_T68 l1 x14_1).f0, (rd_T68 l1 x14_1).f1⟩ : S84) [.string ((rd_T68 l1 x14_1).f0), .int .i64 ((rd_T68 l1 x14_1).f1)] from (k84_mkM _ _ _ (⟨(rd_T68 l1 x14_1).f0, (rd_T68 l1 x14_1).f1⟩ : S84) )) (Reps.none _ _))); intro v617 w26 ho27 hb hg_ hnew_; clear hg_ hnew_; (rw [← Ny616.out] at ho27); have n0_ := Aside0.mk (Kd.R_elder' (pR HO615) (Kd.R_base ho27) hb); have n1_ := Aside0.mk (Kd.R_lower (Kd.R_new' ho27 (Kd.R_lt (pR HO615))) (below_size (w := w) bW)); have n2_ := Aside0.mk (kb BK610 hb); have n3_ := Aside0.mk (below_step (w := w) bW hb); clear HO615; clear BK610; clear HB; have HO615 := n0_; have HO618 := n1_; have BK610 := n2_; have HB := n3_; clear n0_ n1_ n2_ n3_; clear hb ho27; obtain ⟨Ao28, co28, eo28⟩ := Kd.R_slice HO615.out; subst eo28; obtain ⟨Ao29, co29, eo29⟩ := Kd.R_slice HO618.out; subst eo29) | ((with_reducible refine gate_callee (f := 126) rfl ?_); refine goesL_ (some 42) rfl rfl Tryz.func126 (by kernel_rfl) rfl #[.slice Ao28 t613.length co28, .int .i64 t611, .slice Ao29 y616.length co29] rfl gA ?_; (with_reducible refine (impl_Entry_126.calls (fun k_ => some k_ = (.slice Ao28 t613.length co28 : Value).ownBlock) (.slice Ao28 t613.length co28) t613 t611 (fun k_ => some k_ = (.slice Ao29 y616.length co29 : Value).ownBlock) (.slice Ao29 y616.length co29) y616 t619 w _ ?side1 ?side2 ?side3 ?side4 ?side5 A19.out).mono ?_); (case side1 => repeat ((with_reducible exact HB.out))); (case side2 => exact Kd.R_tight rfl HO615.out); (case side3 => exact fun k_ e_ => (HO615.out.1 k_ e_.symm).2); (case side4 => exact Kd.R_tight rfl HO618.out); (case side5 => exact fun k_ e_ => (HO618.out.1 k_ e_.symm).2); rintro e w30 ⟨v620, rfl, ho0, hb, hkp⟩; refine ⟨_, rfl, ?_⟩; have n0_ := Aside0.mk (blk_kept (kB BK610) hkp (fun hs_ => Or.elim hs_ (fun e_ => (fun e_ => (Kd.R_ne HO615.out BK610.out (by decide)) e_) e_) (fun e_ => (fun e_ => (Kd.R_ne HO618.out BK610.out (by decide)) e_) e_))); have n1_ := Aside0.mk (Kd.R_mono (ok' := fun k_ => True) ho0 (fun k_ hk_ => trivial)); have n2_ := Aside0.mk (hb); clear BK610; clear HB; clear HO615; clear HO618; have BK610 := n0_; have HO621 := n1_; have HB := n2_; clear n0_ n1_ n2_; (try clear hb); (try clear hkp); (try clear ho0)))
                go_roundg k1
                case measure => have := HK1.out; omega
                case rel => exact ⟨(t619), (wrap64 (x14_1 + 1)), vE, H', ⟨by have := HK1.out; omega⟩, ⟨by exact HO621.out⟩, ⟨bW⟩⟩
            · replace c9 := Bool.eq_false_iff.mpr c9
              subst c9
              have H1 : (if ((rd_T68 l1 x14_1).f2 = true) then (impl_edited.l0 k1 x5_1 l1 (l1.length : Int) (wrap64 (x14_1 + 1))) else ((impl_Entry_126.f x5_1 t611 (([(⟨(rd_T68 l1 x14_1).f0, (rd_T68 l1 x14_1).f1⟩ : S84)] : List (S84)))).bind fun t625 => (impl_edited.l0 k1 t625 l1 (l1.length : Int) (wrap64 (x14_1 + 1))))) = some r := by rw [if_neg (show ¬ (false = true) by decide)] at H; exact H
              clear H
              have H := H1
              clear H1
              obtain ⟨bq31, hbq31⟩ : ∃ b_ : Bool, b_ = ((rd_T68 l1 x14_1).f2) := ⟨_, rfl⟩
              replace H : (if (bq31 = true) then (impl_edited.l0 k1 x5_1 l1 (l1.length : Int) (wrap64 (x14_1 + 1))) else ((impl_Entry_126.f x5_1 t611 (([(⟨(rd_T68 l1 x14_1).f0, (rd_T68 l1 x14_1).f1⟩ : S84)] : List (S84)))).bind fun t625 => (impl_edited.l0 k1 t625 l1 (l1.length : Int) (wrap64 (x14_1 + 1))))) = some r := by rw [← hbq31] at H; exact H
              have Nbq31 := Aside0.mk hbq31
              clear hbq31
              by_cases c32 : (bq31 = true)
              · subst c32
                have H1 : (impl_edited.l0 k1 x5_1 l1 (l1.length : Int) (wrap64 (x14_1 + 1))) = some r := by rw [if_pos rfl] at H; exact H
                clear H
                have H := H1
                clear H1
                have H' := Aside0.mk H
                clear H
                have p609 : 0 ≤ (x14_1 : Int) := odt
                have q609 : x14_1 < (l1.length : Int) := odt
                obtain ⟨ad609, e609, hx609_0, hx609_1, hx609_2⟩ := at_T68 HR1.out x14_1 p609 q609
                (try rw [← Nbq31.out] at hx609_2)
                cases e609
                replace hx609_0 := (HB.out.cell (World.block_lt_of_cell? w _ hx609_0)).trans hx609_0
                replace hx609_1 := (HB.out.cell (World.block_lt_of_cell? w _ hx609_1)).trans hx609_1
                replace hx609_2 := (HB.out.cell (World.block_lt_of_cell? w _ hx609_2)).trans hx609_2
                replace p609 := eq_true p609
                replace q609 := eq_true q609
                go_wp2_with (first | ((with_reducible refine gate_dst (N := 7) rfl ?_); refine bE (N := 7) (cs := #[.string (⟨#[]⟩ : ByteArray), .int .i64 0, .bool false]) (t := 68) ?_; intro gb610 hg w33 hbox hb; have n0_ := Aside0.mk (Kd.R_below (pR HO_5) hb); have n1_ := Aside0.mk (below_step (w := w) bW hb); have n2_ := Aside0.mk (hbox); have n3_ := Aside0.mk (gS (w := w) hg); have n4_ := n3_; clear HO_5; clear HB; have HO_5 := n0_; have HB := n1_; have BK610 := n2_; have GW610 := n3_; have GE610 := n4_; clear n0_ n1_ n2_ n3_ n4_; clear hb hbox hg; obtain ⟨hcz34_0, hcz34_1, hcz34_2⟩ := cz3 BK610; obtain ⟨hfz34_0, hfz34_1, hfz34_2⟩ := fz3 BK610; obtain ⟨Ao35, co35, eo35⟩ := Kd.R_slice HO_5.out; subst eo35) | ((with_reducible refine gate_callee (f := 59) rfl ?_); refine goesL_ (some 22) rfl rfl Tryz.func59 (by kernel_rfl) rfl #[.slice Ao35 x5_1.length co35, .string ((rd_T68 l1 x14_1).f0)] rfl gA ?_; (with_reducible refine (impl_find.calls _ _ x5_1 ((rd_T68 l1 x14_1).f0) t611 false _ ?side1 ?side2 A8.out).mono ?_); (case side1 => refine (Kd.R_reads' (e := 84) (base := w.heap.size) (ok := fun k_ => True) (n := x5_1.length) (c := co35) ?_).2.2; exact (by exact (Kd.R_mono (Kd.R_far (p := ⟨gb610, 2, none⟩) (Kd.R_far (p := ⟨gb610, 1, none⟩) (Kd.R_far (p := ⟨gb610, 0, none⟩) (Kd.R_types HO_5.out BK610.out (by decide)) (fun _ hk => hk.2) (.string ((rd_T68 l1 x14_1).f0))) (fun _ hk => hk.2) (.int .i64 ((rd_T68 l1 x14_1).f1))) (fun _ hk => hk.2) (.bool true)) (fun _ h_ => h_.1)))); (case side2 => exact (Kd.R_reads' HO_5.out).2.1); rintro e w36 ⟨rfl, hb⟩; refine ⟨_, rfl, ?_⟩; have n0_ := Aside0.mk (Kd.R_below (by exact (Kd.R_mono (Kd.R_far (p := ⟨gb610, 2, none⟩) (Kd.R_far (p := ⟨gb610, 1, none⟩) (Kd.R_far (p := ⟨gb610, 0, none⟩) (Kd.R_types HO_5.out BK610.out (by decide)) (fun _ hk => hk.2) (.string ((rd_T68 l1 x14_1).f0))) (fun _ hk => hk.2) (.int .i64 ((rd_T68 l1 x14_1).f1))) (fun _ hk => hk.2) (.bool true)) (fun _ h_ => h_.1))) hb); have n1_ := Aside0.mk (blk_below (g := gb610) (o := .cells #[.string ((rd_T68 l1 x14_1).f0), .int .i64 ((rd_T68 l1 x14_1).f1), .bool true] 68 (0, 0)) (by refine blk_put (cs := #[.string ((rd_T68 l1 x14_1).f0), .int .i64 ((rd_T68 l1 x14_1).f1), .bool false]) ?_ 2 _ rfl; refine blk_put (cs := #[.string ((rd_T68 l1 x14_1).f0), .int .i64 0, .bool false]) ?_ 1 _ rfl; refine blk_put (cs := #[.string (⟨#[]⟩ : ByteArray), .int .i64 0, .bool false]) ?_ 0 _ rfl; exact BK610.out) hb); have n2_ := Aside0.mk (below_step (w := w) bW hb); clear HO_5; clear BK610; clear HB; have HO_5 := n0_; have BK610 := n1_; have HB := n2_; clear n0_ n1_ n2_; (try clear hb); obtain ⟨hcz37_0, hcz37_1, hcz37_2⟩ := cz3 BK610; obtain ⟨hfz37_0, hfz37_1, hfz37_2⟩ := fz3 BK610))
                go_roundg k1
                case measure => have := HK1.out; omega
                case rel => exact ⟨(x5_1), (wrap64 (x14_1 + 1)), vE, H', ⟨by have := HK1.out; omega⟩, ⟨by exact HO_5.out⟩, ⟨bW⟩⟩
              · replace c32 := Bool.eq_false_iff.mpr c32
                subst c32
                have H1 : ((impl_Entry_126.f x5_1 t611 (([(⟨(rd_T68 l1 x14_1).f0, (rd_T68 l1 x14_1).f1⟩ : S84)] : List (S84)))).bind fun t625 => (impl_edited.l0 k1 t625 l1 (l1.length : Int) (wrap64 (x14_1 + 1)))) = some r := by rw [if_neg (show ¬ (false = true) by decide)] at H; exact H
                clear H
                have H := H1
                clear H1
                obtain ⟨y622, hy622⟩ : ∃ y_ : List (S84), y_ = (([(⟨(rd_T68 l1 x14_1).f0, (rd_T68 l1 x14_1).f1⟩ : S84)] : List (S84))) := ⟨_, rfl⟩
                replace H : ((impl_Entry_126.f x5_1 t611 y622).bind fun t625 => (impl_edited.l0 k1 t625 l1 (l1.length : Int) (wrap64 (x14_1 + 1)))) = some r := by (rw [hy622]; with_reducible exact H)
                have Ny622 := Aside0.mk hy622
                clear hy622
                replace H := Option.bind_eq_some_iff.mp H
                obtain ⟨t625, A380, H⟩ := H
                replace H : (impl_edited.l0 k1 t625 l1 (l1.length : Int) (wrap64 (x14_1 + 1))) = some r := H
                have A38 := Aside0.mk A380
                clear A380
                have H' := Aside0.mk H
                clear H
                have p609 : 0 ≤ (x14_1 : Int) := odt
                have q609 : x14_1 < (l1.length : Int) := odt
                obtain ⟨ad609, e609, hx609_0, hx609_1, hx609_2⟩ := at_T68 HR1.out x14_1 p609 q609
                (try rw [← Nbq31.out] at hx609_2)
                cases e609
                replace hx609_0 := (HB.out.cell (World.block_lt_of_cell? w _ hx609_0)).trans hx609_0
                replace hx609_1 := (HB.out.cell (World.block_lt_of_cell? w _ hx609_1)).trans hx609_1
                replace hx609_2 := (HB.out.cell (World.block_lt_of_cell? w _ hx609_2)).trans hx609_2
                replace p609 := eq_true p609
                replace q609 := eq_true q609
                go_wp2_with (first | ((with_reducible refine gate_dst (N := 7) rfl ?_); refine bE (N := 7) (cs := #[.string (⟨#[]⟩ : ByteArray), .int .i64 0, .bool false]) (t := 68) ?_; intro gb610 hg w39 hbox hb; have n0_ := Aside0.mk (Kd.R_below (pR HO_5) hb); have n1_ := Aside0.mk (below_step (w := w) bW hb); have n2_ := Aside0.mk (hbox); have n3_ := Aside0.mk (gS (w := w) hg); have n4_ := n3_; clear HO_5; clear HB; have HO_5 := n0_; have HB := n1_; have BK610 := n2_; have GW610 := n3_; have GE610 := n4_; clear n0_ n1_ n2_ n3_ n4_; clear hb hbox hg; obtain ⟨hcz40_0, hcz40_1, hcz40_2⟩ := cz3 BK610; obtain ⟨hfz40_0, hfz40_1, hfz40_2⟩ := fz3 BK610; obtain ⟨Ao41, co41, eo41⟩ := Kd.R_slice HO_5.out; subst eo41) | ((with_reducible refine gate_callee (f := 59) rfl ?_); refine goesL_ (some 22) rfl rfl Tryz.func59 (by kernel_rfl) rfl #[.slice Ao41 x5_1.length co41, .string ((rd_T68 l1 x14_1).f0)] rfl gA ?_; (with_reducible refine (impl_find.calls _ _ x5_1 ((rd_T68 l1 x14_1).f0) t611 false _ ?side1 ?side2 A8.out).mono ?_); (case side1 => refine (Kd.R_reads' (e := 84) (base := w.heap.size) (ok := fun k_ => True) (n := x5_1.length) (c := co41) ?_).2.2; exact (by exact (Kd.R_mono (Kd.R_far (p := ⟨gb610, 2, none⟩) (Kd.R_far (p := ⟨gb610, 1, none⟩) (Kd.R_far (p := ⟨gb610, 0, none⟩) (Kd.R_types HO_5.out BK610.out (by decide)) (fun _ hk => hk.2) (.string ((rd_T68 l1 x14_1).f0))) (fun _ hk => hk.2) (.int .i64 ((rd_T68 l1 x14_1).f1))) (fun _ hk => hk.2) (.bool false)) (fun _ h_ => h_.1)))); (case side2 => exact (Kd.R_reads' HO_5.out).2.1); rintro e w42 ⟨rfl, hb⟩; refine ⟨_, rfl, ?_⟩; have n0_ := Aside0.mk (Kd.R_below (by exact (Kd.R_mono (Kd.R_far (p := ⟨gb610, 2, none⟩) (Kd.R_far (p := ⟨gb610, 1, none⟩) (Kd.R_far (p := ⟨gb610, 0, none⟩) (Kd.R_types HO_5.out BK610.out (by decide)) (fun _ hk => hk.2) (.string ((rd_T68 l1 x14_1).f0))) (fun _ hk => hk.2) (.int .i64 ((rd_T68 l1 x14_1).f1))) (fun _ hk => hk.2) (.bool false)) (fun _ h_ => h_.1))) hb); have n1_ := Aside0.mk (blk_below (g := gb610) (o := .cells #[.string ((rd_T68 l1 x14_1).f0), .int .i64 ((rd_T68 l1 x14_1).f1), .bool false] 68 (0, 0)) (by refine blk_put (cs := #[.string ((rd_T68 l1 x14_1).f0), .int .i64 ((rd_T68 l1 x14_1).f1), .bool false]) ?_ 2 _ rfl; refine blk_put (cs := #[.string ((rd_T68 l1 x14_1).f0), .int .i64 0, .bool false]) ?_ 1 _ rfl; refine blk_put (cs := #[.string (⟨#[]⟩ : ByteArray), .int .i64 0, .bool false]) ?_ 0 _ rfl; exact BK610.out) hb); have n2_ := Aside0.mk (below_step (w := w) bW hb); clear HO_5; clear BK610; clear HB; have HO_5 := n0_; have BK610 := n1_; have HB := n2_; clear n0_ n1_ n2_; (try clear hb); obtain ⟨hcz43_0, hcz43_1, hcz43_2⟩ := cz3 BK610; obtain ⟨hfz43_0, hfz43_1, hfz43_2⟩ := fz3 BK610) | ((with_reducible refine gate_dst (N := 41) rfl ?_); refine Kd.R_lit k84 _ 84 ?hg (N := 41) ?hd (xs := ([(⟨(rd_T68 l1 x14_1).f0, (rd_T68 l1 x14_1).f1⟩ : S84)] : List (S84))) (inner := [.string ((rd_T68 l1 x14_1).f0), .int .i64 ((rd_T68 l1 x14_1).f1)]) (ok := fun _ => True) (okp := fun _ => True) ?hr ?hp (fun _ hk => hk) trivial (Below.refl _ _) (Nat.le_refl _) (by simp) ?_; (case hd => rfl); (case hg => rfl); (case hr => (go_simp; done)); (case hp => exact (Reps.c2 (show Kd.M k84 _ _ _ (⟨(rd_T68 l1 x14_1).f0, (rd_T68 l1 x14_1).f1⟩ : S84) [.string ((rd_T68 l1 x14_1).f0), .int .i64 ((rd_T68 l1 x14_1).f1)] from (k84_mkM _ _ _ (⟨(rd_T68 l1 x14_1).f0, (rd_T68 l1 x14_1).f1⟩ : S84) )) (Reps.none _ _))); intro v623 w44 ho45 hb hg_ hnew_; clear hg_ hnew_; (rw [← Ny622.out] at ho45); have n0_ := Aside0.mk (Kd.R_elder' (pR HO_5) (Kd.R_base ho45) hb); have n1_ := Aside0.mk (Kd.R_lower (Kd.R_new' ho45 (Kd.R_lt (pR HO_5))) (below_size (w := w) bW)); have n2_ := Aside0.mk (kb BK610 hb); have n3_ := Aside0.mk (below_step (w := w) bW hb); clear HO_5; clear BK610; clear HB; have HO_5 := n0_; have HO624 := n1_; have BK610 := n2_; have HB := n3_; clear n0_ n1_ n2_ n3_; clear hb ho45; obtain ⟨Ao46, co46, eo46⟩ := Kd.R_slice HO624.out; subst eo46) | ((with_reducible refine gate_callee (f := 126) rfl ?_); refine goesL_ (some 42) rfl rfl Tryz.func126 (by kernel_rfl) rfl #[.slice Ao41 x5_1.length co41, .int .i64 t611, .slice Ao46 y622.length co46] rfl gA ?_; (with_reducible refine (impl_Entry_126.calls (fun k_ => some k_ = (.slice Ao41 x5_1.length co41 : Value).ownBlock) (.slice Ao41 x5_1.length co41) x5_1 t611 (fun k_ => some k_ = (.slice Ao46 y622.length co46 : Value).ownBlock) (.slice Ao46 y622.length co46) y622 t625 w _ ?side1 ?side2 ?side3 ?side4 ?side5 A38.out).mono ?_); (case side1 => repeat ((with_reducible exact HB.out))); (case side2 => exact Kd.R_tight rfl HO_5.out); (case side3 => exact fun k_ e_ => (HO_5.out.1 k_ e_.symm).2); (case side4 => exact Kd.R_tight rfl HO624.out); (case side5 => exact fun k_ e_ => (HO624.out.1 k_ e_.symm).2); rintro e w47 ⟨v626, rfl, ho0, hb, hkp⟩; refine ⟨_, rfl, ?_⟩; have n0_ := Aside0.mk (blk_kept (kB BK610) hkp (fun hs_ => Or.elim hs_ (fun e_ => (fun e_ => (Kd.R_ne HO_5.out BK610.out (by decide)) e_) e_) (fun e_ => (fun e_ => (Kd.R_ne HO624.out BK610.out (by decide)) e_) e_))); have n1_ := Aside0.mk (Kd.R_mono (ok' := fun k_ => True) ho0 (fun k_ hk_ => trivial)); have n2_ := Aside0.mk (hb); clear BK610; clear HB; clear HO624; clear HO_5; have BK610 := n0_; have HO627 := n1_; have HB := n2_; clear n0_ n1_ n2_; (try clear hb); (try clear hkp); (try clear ho0)))
                go_roundg k1
                case measure => have := HK1.out; omega
                case rel => exact ⟨(t625), (wrap64 (x14_1 + 1)), vE, H', ⟨by have := HK1.out; omega⟩, ⟨by exact HO627.out⟩, ⟨bW⟩⟩
          · rw [if_neg c7] at H
            exact absurd H (by simp)
        · rw [if_neg c6] at H
          exact absurd H (by simp)
      · rw [if_neg c5] at H
        have c5b0 : decide (x14_1 < (l1.length : Int)) = false := decide_eq_false c5
        clear c5
        obtain rfl := Option.some.inj H
        go_wp2
        go_ret
        exact ⟨_, by rfl, by exact HO_5.out, bW⟩
end Go.Proofs.YtblejbgkcgajgaaGreat.Q
end

section
namespace Go.Proofs.YtblejbgkcgajgaaGreat.Q
open Go.RowKit Go.Proofs.YtblejbgkcgajgaaGreatW.PrintWords Go.Proofs.YtblejbgkcgajgaaGreatW.PrintLast Go.Proofs.YtblejbgkcgajgaaGreatW.PrintMore
attribute [local go_sem] max2_int min2_int max_two min_two max_three min_three max_four min_four   -- for this text's walks alone
set_option linter.unusedVariables false
set_option linter.unusedSimpArgs false
attribute [local go_sem] bin_leq bin_gtr bin_geq
def lastE (L : List S68) (key : ByteArray) : Option S68 := L.foldl (fun a e => if e.f0 = key then some e else a) none
def hasE (L : List S68) (key : ByteArray) : Bool := (lastE L key).isSome
def gotE (L : List S68) (key : ByteArray) : S68 := (lastE L key).getD ⟨⟨#[]⟩, 0, false⟩
def heldR (v : Value) : Option (DataW Value × List MemPlace) := some (.held v, [])
def ediV (e : S68) : Value := .agg #[.string e.f0, .int .i64 e.f1, .bool e.f2]
def mapD (L : List S68) : DataW Value := L.foldl (fun D e => D.put (.string e.f0.data.toList) (.held (ediV e))) (.map [])
def MapE (w : World) (B n : Nat) (L : List S68) : Prop := w.ownsMap Tryz.prog 9 heldR B n (mapD L)
theorem lastE_snoc (L : List S68) (e : S68) (key : ByteArray) : lastE (L ++ [e]) key = if e.f0 = key then some e else lastE L key := by simp [lastE, List.foldl_append]
theorem mapD_snoc (L : List S68) (e : S68) : mapD (L ++ [e]) = (mapD L).put (.string e.f0.data.toList) (.held (ediV e)) := by simp [mapD, List.foldl_append]
theorem mapD_all (m : Nat) : ∀ L : List S68, L.length = m → Go.Maps.IsMap (mapD L) ∧ ∀ key : ByteArray, Go.Maps.has (mapD L) (.string key.data.toList) = hasE L key ∧ ∀ z, (mapD L).atKey (.string key.data.toList) (.held z) = .held (match lastE L key with | some x => ediV x | none => z) := by
  induction m with
  | zero =>
    intro L hL
    obtain rfl := List.eq_nil_of_length_eq_zero hL
    exact ⟨⟨[], rfl⟩, fun key => ⟨rfl, fun z => rfl⟩⟩
  | succ m ih =>
    intro L hL
    have hne : L ≠ [] := by intro h; rw [h] at hL; simp at hL
    obtain ⟨I, e, rfl⟩ : ∃ I e, L = I ++ [e] := ⟨L.dropLast, L.getLast hne, (List.dropLast_concat_getLast hne).symm⟩
    obtain ⟨h1, h2⟩ := ih I (by simpa using hL)
    rw [mapD_snoc]
    refine ⟨h1.put _ _, fun key => ?_⟩
    rw [lastE_snoc]
    unfold hasE
    rw [lastE_snoc]
    by_cases hk : e.f0 = key
    · subst hk
      refine ⟨by rw [Go.Maps.has_put_same h1 (by trivial), if_pos rfl]; rfl, fun z => ?_⟩
      rw [Go.Maps.atKey_put_same h1 (by trivial), if_pos rfl]
    · have hne2 : (Lit.string key.data.toList) ≠ Lit.string e.f0.data.toList := by
        intro h
        injection h with h
        apply hk
        have h5 : e.f0.data = key.data := Array.ext' h.symm
        cases hA : e.f0
        cases hB : key
        rw [hA, hB] at h5
        exact congrArg ByteArray.mk h5
      refine ⟨by rw [Go.Maps.has_put_other hne2, if_neg hk]; exact (h2 key).1, fun z => ?_⟩
      rw [Go.Maps.atKey_put_other hne2, if_neg hk]
      exact (h2 key).2 z
theorem MapE_made (w : World) : MapE (w.alloc (.map #[] 0)) w.heap.size 0 [] := World.ownsMap_made w _ _ _
theorem MapE_lt {w : World} {B n : Nat} {L : List S68} (h : MapE w B n L) : B < w.heap.size := World.ownsMap.lt h
theorem MapE_alloc {w : World} {B n : Nat} {L : List S68} (h : MapE w B n L) (o : Obj) : MapE (w.alloc o) B n L := World.ownsMap.alloc h o
theorem MapE_grown {w w' : World} {B n : Nat} {L : List S68} {row : Option Nat} (h : MapE w B n L) (hg : w.grownBy w' row) (hne : some B ≠ row) : MapE w' B n L := World.ownsMap.kept h hg hne
theorem MapE_below {w w' : World} {B n : Nat} {L : List S68} (h : MapE w B n L) (hb : Below w.heap.size w w') : MapE w' B n L := World.ownsMap.kept h (grown_of_below hb none) (by simp)
theorem zeroEd (w : World) : (zeroValue 68).run Tryz.prog w = .ok (.agg #[.string ⟨#[]⟩, .int .i64 0, .bool false]) w := Tryz.zeroValue68 w
section
variable (w : World) {ops : Array Oper} {rest : List Oper} {o : Oper} {a : Act} {Q : Exit → Act → World → Prop}
theorem wpList_lookup_E (hg : o.guard = none) (m x : Operand) (hop : o.op = Op.lookup 131 m x true) (B n : Nat) (L : List S68) (hm : a.eval m = .map (some B)) (hown : MapE w B n L) (key : ByteArray) (hx : a.eval x = .string key) (hk : key.size ≤ maxLen)
    (y : S68) (b : Bool) (hy : gotE L key = y) (hb : hasE L key = b)
    (hK : wpList Tryz.prog ops Q rest (a.put o.dst (.tuple #[.agg #[.string y.f0, .int .i64 y.f1, .bool y.f2], .bool b])) w) :
    wpList Tryz.prog ops Q (o :: rest) a w :=
  wpList_lookup_own_ok w hg m x _ hop 9 68 (Go.Maps.string_keyed Tryz.underlying9) Tryz.underlying131 heldR (zeroEd w) _ [] rfl B n (mapD L) hm hown (.string key) (.string key.data.toList) hx (Go.WideMaps.keyOf_string_mk Tryz.underlying9 hk) (fun v ps hv => by
    obtain ⟨h1, h2⟩ := (mapD_all L.length L rfl).2 key
    rw [h2, heldR] at hv
    have e1 := congrArg Prod.fst (Option.some.inj hv)
    simp only at e1
    injection e1 with e2
    have e3 : v = .agg #[.string y.f0, .int .i64 y.f1, .bool y.f2] := by
      rw [e2, ← hy]
      unfold gotE
      cases lastE L key <;> rfl
    rw [e3, h1, hb]
    exact hK)
theorem wpList_update_E (hg : o.guard = none) (m x v : Operand) (hop : o.op = Op.mapUpdate 131 m x v) (B n : Nat) (L : List S68) (hm : a.eval m = .map (some B)) (hown : MapE w B n L) (hn : n < maxLen) (e : S68) (hx : a.eval x = .string e.f0) (hv : a.eval v = ediV e) (hk : e.f0.size ≤ maxLen)
    (hK : ∀ w', MapE w' B (n + 1) (L ++ [e]) → w.grownBy w' (some B) → wpList Tryz.prog ops Q rest (a.put o.dst undef) w') :
    wpList Tryz.prog ops Q (o :: rest) a w :=
  wpList_mapUpdate_own w hg m x v _ hop 9 68 (Go.Maps.string_keyed Tryz.underlying9) Tryz.underlying131 heldR B n (mapD L) hm hown hn (.string e.f0) (ediV e) (.string e.f0.data.toList) hx hv (Go.WideMaps.keyOf_string_mk Tryz.underlying9 hk) (.held (ediV e)) [] rfl (fun w' h1 h2 => hK w' (by unfold MapE; rw [mapD_snoc]; exact h1) h2)
end
def neE (x e : S68) : Bool := !(x.f0.toList == e.f0.toList) || (!(x.f1 == e.f1) || !(x.f2 == e.f2))
def mstep (L : List S68) (oc : List S68 × List ByteArray) (e : S68) : List S68 × List ByteArray :=
  if hasE L e.f0 = true then (if neE (gotE L e.f0) e = true then (oc.1, oc.2 ++ [e.f0]) else oc) else (oc.1 ++ [e], oc.2)
def mrg (L R : List S68) : List S68 × List ByteArray := R.foldl (mstep L) ([], [])
theorem mrg_take (L R : List S68) (i : Nat) (hi : i < R.length) : mrg L (R.take (i + 1)) = mstep L (mrg L (R.take i)) R[i] := by
  unfold mrg
  rw [List.take_succ_eq_append_getElem hi, List.foldl_append]
  rfl
theorem mrg_len (L R : List S68) (i : Nat) (hi : i ≤ R.length) : (mrg L (R.take i)).1.length ≤ i ∧ (mrg L (R.take i)).2.length ≤ i := by
  induction i with
  | zero => simp [mrg]
  | succ i ih =>
    have h := ih (by omega)
    rw [mrg_take L R i hi]
    unfold mstep
    split
    · split
      · simp only [List.length_append, List.length_cons, List.length_nil]; omega
      · omega
    · simp only [List.length_append, List.length_cons, List.length_nil]; omega
def small (L R : List S68) : Bool := (L ++ R).all (fun e => decide (e.f0.size ≤ 1000000)) && decide (L.length + R.length ≤ 1000000)
end Go.Proofs.YtblejbgkcgajgaaGreat.Q
end

section
namespace Go.Proofs.YtblejbgkcgajgaaGreat.Q
open Go.RowKit Go.Proofs.YtblejbgkcgajgaaGreatW.PrintWords Go.Proofs.YtblejbgkcgajgaaGreatW.PrintLast Go.Proofs.YtblejbgkcgajgaaGreatW.PrintMore
attribute [local go_sem] max2_int min2_int max_two min_two max_three min_three max_four min_four   -- for this text's walks alone
set_option linter.unusedVariables false
set_option linter.unusedSimpArgs false
attribute [local go_sem] bin_leq bin_gtr bin_geq
def impl_merge.f (k : Nat) (l0 : List (S84)) (l1 : List (S84)) (l2 : List (S84)) : Option ((List (S84)) × List ByteArray × Int) := (impl_diff.f k l0 l1).bind fun L => (impl_diff.f k l0 l2).bind fun R => if small L R = true then (if 0 < (mrg L R).2.length then some ([], (mrg L R).2, 11) else ((impl_edited.f k l1 (mrg L R).1).bind fun m => (impl_limited.f m).bind fun t => some (t.1, [], t.2))) else none
set_option maxHeartbeats 8000000 in
set_option maxRecDepth 100000 in
theorem impl_merge.calls (k : Nat) (A0 : Option Addr) (c0 : Nat) (l0 : List (S84)) (A1 : Option Addr) (c1 : Nat) (l1 : List (S84)) (A2 : Option Addr) (c2 : Nat) (l2 : List (S84)) (r1 : List (S84)) (r2 : List ByteArray) (r3 : Int) (w : World) (hr0 : Kd.C k84 w A0 l0.length l0) (hc0 : l0.length ≤ c0) (hr1 : Kd.C k84 w A1 l1.length l1) (hc1 : l1.length ≤ c1) (hr2 : Kd.C k84 w A2 l2.length l2) (hc2 : l2.length ≤ c2) (h : impl_merge.f k l0 l1 l2 = some (r1, r2, r3)) :
    Calls Tryz.prog 76 #[.slice A0 l0.length c0, .slice A1 l1.length c1, .slice A2 l2.length c2] w fun e w' => ∃ v0_ v1_ : Value, e = .returned (.tuple #[v0_, v1_, .int .i64 r3]) ∧ Kd.R k84 84 w' w.heap.size (fun _ => True) v0_ r1 ∧ Kd.R Kd.string 9 w' w.heap.size (fun _ => True) v1_ r2 ∧ Below w.heap.size w w' := by
  unfold impl_merge.f at h
  have HR0 := Aside0.mk hr0
  have HC0 := Aside0.mk hc0
  have HR1 := Aside0.mk hr1
  have HC1 := Aside0.mk hc1
  have HR2 := Aside0.mk hr2
  have HC2 := Aside0.mk hc2
  clear hr0 hc0 hr1 hc1 hr2 hc2
  obtain ⟨L, h1, h⟩ := Option.bind_eq_some_iff.mp h
  have A1_ := Aside0.mk h1
  clear h1
  obtain ⟨R, h2, h⟩ := Option.bind_eq_some_iff.mp h
  have A2_ := Aside0.mk h2
  clear h2
  by_cases hs : small L R = true
  case neg => rw [if_neg hs] at h; cases h
  rw [if_pos hs] at h
  have hsz : ∀ e : S68, e ∈ L ∨ e ∈ R → e.f0.size ≤ 1000000 := by
    unfold small at hs
    rw [Bool.and_eq_true, List.all_eq_true] at hs
    exact fun e he => of_decide_eq_true (hs.1 e (List.mem_append.mpr he))
  have hlen : L.length + R.length ≤ 1000000 := by
    unfold small at hs
    rw [Bool.and_eq_true] at hs
    exact of_decide_eq_true hs.2
  have HS := Aside0.mk hsz
  have HN := Aside0.mk hlen
  have H := Aside0.mk h
  clear hsz hlen hs h
  have hmm := @run_makeMap Tryz.prog
  have HM0 := Aside0.mk (MapE_made w)
  have hLb : L.length ≤ 1000000 := by have := HN.out; omega
  have hRb : R.length ≤ 1000000 := by have := HN.out; omega
  have HB := Aside0.mk (show Below w.heap.size w (w.alloc (.map #[] 0)) from below_alloc (Below.refl _ _) _)
  go_enter Tryz.func76, Tryz.ntmps76
  go_wp2_with (go_at_call 34; (with_reducible refine (impl_diff.calls k _ _ l0 _ _ l1 L _ ?s1 ?s2 ?s3 ?s4 A1_.out).mono ?_); (case s1 => exact Kd.C_below HR0.out HB.out); (case s2 => exact HC0.out); (case s3 => exact Kd.C_below HR1.out HB.out); (case s4 => exact HC1.out); rintro e w2 ⟨v9, rfl, ho0, hb⟩; have n0_ := Aside0.mk (Kd.R_mono (Kd.R_lower (Kd.R_bound ho0) (below_size (w := w) HB.out)) (fun k_ hk => (show k_ ≠ w.heap.size from fun e_ => by have h8 := hk.2.1; have h9 := MapE_lt HM0.out; rw [e_] at h8; omega))); have n1_ := Aside0.mk (MapE_below HM0.out hb); have n2_ := Aside0.mk (below_step (w := w) HB.out hb); clear HB HM0 ho0 hb; have HL := n0_; have HM := n1_; have HB := n2_; clear n0_ n1_ n2_; obtain ⟨A9, c9, e9⟩ := Kd.R_slice HL.out; subst e9)
  go_loopg [25] L.length (fun gk v25 w' => ∃ i : Nat, v25 = .int .i64 i ∧ i ≤ L.length ∧ L.length - i ≤ gk ∧ Aside0 (MapE w' w.heap.size i (L.take i)) ∧ Aside0 (Kd.R k68 68 w' w.heap.size (fun k_ => k_ ≠ w.heap.size) (.slice A9 L.length c9) L) ∧ Aside0 (Below w.heap.size w w'))
  case atStart => exact ⟨0, rfl, Nat.zero_le _, by omega, HM, HL, HB⟩
  case round =>
    clear HM HL HB
    obtain ⟨i, rfl, hi, hg, HM, HL, HB⟩ := hrel
    by_cases hlt : i < L.length
    · have hltz : (i : Int) < (L.length : Int) := by omega
      obtain ⟨ad, ead, hx0, hx1, hx2⟩ := at_T68 (Kd.R_reads' HL.out).2.2 (i : Int) (by omega) hltz
      have e1 : rd_T68 L (i : Int) = L[i] := by simp [rd_T68, List.getD_eq_getElem?_getD, List.getElem?_eq_getElem hlt]
      rw [e1] at hx0 hx1 hx2
      simp only [Int.toNat_natCast] at hx0 hx1 hx2
      have HZ := Aside0.mk (show (L[i]).f0.size ≤ maxLen from Nat.le_trans (HS.out _ (.inl (List.getElem_mem hlt))) (by unfold maxLen; decide))
      have HT := Aside0.mk (show L.take (i + 1) = L.take i ++ [L[i]] from List.take_succ_eq_append_getElem hlt)
      obtain ⟨y, hy⟩ : ∃ y, y = L[i] := ⟨_, rfl⟩
      rw [← hy] at hx0 hx1 hx2 HZ HT
      clear hy e1
      cases ead
      have HI := Aside0.mk (show i < maxLen by have := HN.out; unfold maxLen; omega)
      go_wp2_with (at_mapUpdate; refine wpList_update_E _ rfl _ _ _ rfl w.heap.size i (L.take i) rfl (MapE_alloc HM.out _) HI.out y rfl rfl HZ.out ?_; intro w1 hm1 hg1; rw [← HT.out] at hm1; have n0_ := Aside0.mk hm1; have n1_ := Aside0.mk (Kd.R_grown (Kd.R_alloc HL.out _) hg1 (fun k_ hk e_ => hk (by injection e_))); have n2_ := Aside0.mk (Below.grown (below_alloc HB.out _) hg1 (below_alloc HB.out _).size (fun k_ e_ => by injection e_ with e_; rw [← e_]; exact Nat.le_refl _)); clear HM HL HB hm1 hg1; have HM := n0_; have HL := n1_; have HB := n2_; clear n0_ n1_ n2_)
      go_roundg (L.length - (i + 1))
      case measure => omega
      case rel => exact ⟨i + 1, by go_num, by omega, Nat.le_refl _, HM, HL, HB⟩
    · have hltz : ¬ (i : Int) < (L.length : Int) := by omega
      obtain rfl : i = L.length := by omega
      have n0_ := Aside0.mk (show MapE wr w.heap.size L.length L from by have h_ := HM.out; rw [List.take_length] at h_; exact h_)
      clear HM
      have HM := n0_
      clear n0_
      go_wp2_with (go_at_call 34; (with_reducible refine (impl_diff.calls k _ _ l0 _ _ l2 R _ ?s1 ?s2 ?s3 ?s4 A2_.out).mono ?_); (case s1 => exact Kd.C_below HR0.out HB.out); (case s2 => exact HC0.out); (case s3 => exact Kd.C_below HR2.out HB.out); (case s4 => exact HC2.out); rintro e w3 ⟨v36, rfl, ho0, hb⟩; have n0_ := Aside0.mk (Kd.R_mono (Kd.R_lower (Kd.R_bound ho0) (below_size (w := w) HB.out)) (fun k_ hk => (show k_ ≠ w.heap.size from fun e_ => by have h8 := hk.2.1; have h9 := MapE_lt HM.out; rw [e_] at h8; omega))); have n1_ := Aside0.mk (MapE_below HM.out hb); have n2_ := Aside0.mk (below_step (w := w) HB.out hb); clear HB HM HL ho0 hb; have HL := n0_; have HM := n1_; have HB := n2_; clear n0_ n1_ n2_; obtain ⟨A36, c36, e36⟩ := Kd.R_slice HL.out; subst e36)
      have n0_ := Aside0.mk (Kd.R_mono HL.out (fun k_ hk => (⟨hk, by simp [Value.ownBlock]⟩ : k_ ≠ w.heap.size ∧ some k_ ≠ (Value.slice none 0 0).ownBlock)))
      clear HL
      have HR := n0_
      clear n0_
      go_loopg [12, 13, 38] R.length (fun gk v12 v13 v38 w' => ∃ j : Nat, v38 = .int .i64 j ∧ j ≤ R.length ∧ R.length - j ≤ gk ∧ Aside0 (MapE w' w.heap.size L.length L) ∧ Aside0 (Kd.R k68 68 w' w.heap.size (fun k_ => k_ ≠ w.heap.size ∧ some k_ ≠ (v12 : Value).ownBlock) (.slice A36 R.length c36) R) ∧ Aside0 (Kd.R k68 68 w' w.heap.size (fun k_ => k_ ≠ w.heap.size ∧ some k_ ≠ (.slice A36 R.length c36 : Value).ownBlock) v12 (mrg L (R.take j)).1) ∧ Aside0 (Kd.R Kd.string 9 w' w.heap.size (fun k_ => k_ ≠ w.heap.size) v13 (mrg L (R.take j)).2) ∧ Aside0 (Below w.heap.size w w'))
      case atStart => exact ⟨0, rfl, Nat.zero_le _, by omega, HM, HR, ⟨Kd.R_nil _ _ _ _ _⟩, ⟨Kd.R_nil _ _ _ _ _⟩, HB⟩
      case round =>
        clear HM HR HB
        obtain ⟨j, rfl, hj, hg2, HM, HR, HO, HC, HB⟩ := hrel
        by_cases hlt2 : j < R.length
        · have hltz2 : (j : Int) < (R.length : Int) := by omega
          obtain ⟨ad, ead, hx0, hx1, hx2⟩ := at_T68 (Kd.R_reads' HR.out).2.2 (j : Int) (by omega) hltz2
          have e1 : rd_T68 R (j : Int) = R[j] := by simp [rd_T68, List.getD_eq_getElem?_getD, List.getElem?_eq_getElem hlt2]
          rw [e1] at hx0 hx1 hx2
          simp only [Int.toNat_natCast] at hx0 hx1 hx2
          have HZ := Aside0.mk (show (R[j]).f0.size ≤ maxLen from Nat.le_trans (HS.out _ (.inr (List.getElem_mem hlt2))) (by unfold maxLen; decide))
          have HT := Aside0.mk (mrg_take L R j hlt2)
          obtain ⟨y, hy⟩ : ∃ y, y = R[j] := ⟨_, rfl⟩
          rw [← hy] at hx0 hx1 hx2 HZ HT
          clear hy e1
          cases ead
          have HLn := Aside0.mk (mrg_len L R j (Nat.le_of_lt hlt2))
          obtain ⟨o_, ho_⟩ : ∃ o_, o_ = (mrg L (R.take j)).1 := ⟨_, rfl⟩
          obtain ⟨c_, hc_⟩ : ∃ c_, c_ = (mrg L (R.take j)).2 := ⟨_, rfl⟩
          have HP := Aside0.mk (show mrg L (R.take j) = (o_, c_) by rw [ho_, hc_])
          rw [← ho_] at HO HLn
          rw [← hc_] at HC HLn
          clear ho_ hc_
          have HL1 := Aside0.mk HLn.out.1
          have HL2 := Aside0.mk HLn.out.2
          clear HLn
          obtain ⟨z_, hz_⟩ : ∃ z_, z_ = gotE L y.f0 := ⟨_, rfl⟩
          have HG := Aside0.mk hz_.symm
          clear hz_
          cases hh : hasE L y.f0 with
          | false =>
            have HH := Aside0.mk hh
            have HT2 := Aside0.mk (show mrg L (R.take (j + 1)) = (o_ ++ [y], c_) by rw [HT.out, HP.out, mstep, hh]; rfl)
            clear hh
            go_wp2_with (first | (at_lookup; refine wpList_lookup_E _ rfl _ _ rfl w.heap.size L.length L rfl (MapE_alloc HM.out _) y.f0 rfl HZ.out z_ false HG.out HH.out ?_) | ((with_reducible refine gate_builtin (b := .append) (xs := #[.tmp 52, .tmp 54]) rfl ?_); at_builtin; refine Kd.R_append k68 (w0 := w) w.heap.size rfl (.tmp 52) (.tmp 54) 30 68 (.agg #[(.string ⟨#[]⟩), (.int .i64 0), (.bool false)]) 32 rfl Tryz.underlying30 info68 rfl (by decide) (by omega) u12 o_ y [.string y.f0, .int .i64 y.f1, .bool y.f2] (fun k_ => k_ ≠ w.heap.size ∧ some k_ ≠ (.slice (some ad) R.length c36 : Value).ownBlock) (fun _ => False) rfl (by (go_simp; done)) ?aP (fun _ hk => hk.elim) ?aF ?aO ?aB ?aS ?aL ?_; (case aP => exact k68_mkM _ _ _ y); (case aB => exact below_alloc (below_alloc HB.out _) _); (case aF => exact fun k_ hk => ⟨(show k_ ≠ w.heap.size from fun e_ => by have h9 := MapE_lt HM.out; rw [e_] at hk; simp at hk; omega), Kd.fresh' (Kd.R_lt (Kd.R_alloc (Kd.R_alloc HR.out _) _)) k_ hk⟩); (case aO => exact Kd.R_alloc (Kd.R_alloc HO.out _) _); (case aS => exact below_size (w := w) (below_alloc (below_alloc HB.out _) _)); (case aL => have := HL1.out; omega); intro v1 w5 ho hb hg hat; have n0_ := Aside0.mk (MapE_grown (MapE_alloc (MapE_alloc HM.out _) _) hg (Kd.R_away HO.out (fun _ hk => hk.1))); have n1_ := Aside0.mk (Kd.R_after (ok := (fun k_ => k_ ≠ w.heap.size)) (Kd.R_alloc (Kd.R_alloc HR.out _) _) hg hat); have n2_ := Aside0.mk (Kd.R_over' (Kd.R_alloc (Kd.R_alloc HC.out _) _) (Kd.R_typed (Kd.R_alloc (Kd.R_alloc HO.out _) _)) (by decide) hg); have n3_ := Aside0.mk ho; have n4_ := Aside0.mk hb; clear HM HR HC HO HB ho hb hg hat; have HM := n0_; have HR := n1_; have HC := n2_; have HO := n3_; have HB := n4_; clear n0_ n1_ n2_ n3_ n4_))
            go_roundg (R.length - (j + 1))
            case measure => omega
            case rel => exact ⟨j + 1, by go_num, by omega, Nat.le_refl _, HM, HR, ⟨by rw [HT2.out]; exact HO.out⟩, ⟨by rw [HT2.out]; exact HC.out⟩, HB⟩
          | true =>
            have HH := Aside0.mk hh
            cases hd : neE z_ y with
            | false =>
              have HT2 := Aside0.mk (show mrg L (R.take (j + 1)) = (o_, c_) by rw [HT.out, HP.out, mstep, hh, HG.out, hd]; rfl)
              have hdb : (!(z_.f0.toList == y.f0.toList) || (!(z_.f1 == y.f1) || !(z_.f2 == y.f2))) = false := hd
              simp only [Bool.or_eq_false_iff, Bool.not_eq_false', beq_iff_eq] at hdb
              obtain ⟨he0, he1, he2⟩ := hdb
              have hzy : z_ = y := by
                cases z_
                cases y
                simp only at he0 he1 he2
                rw [toList_inj he0, he1, he2]
              clear hh hd he0 he1 he2
              subst hzy
              go_wp2_with ((at_lookup; refine wpList_lookup_E _ rfl _ _ rfl w.heap.size L.length L rfl (MapE_alloc HM.out _) z_.f0 rfl HZ.out z_ true HG.out HH.out ?_))
              go_roundg (R.length - (j + 1))
              case measure => omega
              case rel => exact ⟨j + 1, by go_num, by omega, Nat.le_refl _, ⟨MapE_alloc (MapE_alloc HM.out _) _⟩, ⟨Kd.R_alloc (Kd.R_alloc HR.out _) _⟩, ⟨by rw [HT2.out]; exact Kd.R_alloc (Kd.R_alloc HO.out _) _⟩, ⟨by rw [HT2.out]; exact Kd.R_alloc (Kd.R_alloc HC.out _) _⟩, ⟨below_alloc (below_alloc HB.out _) _⟩⟩
            | true =>
              have HT2 := Aside0.mk (show mrg L (R.take (j + 1)) = (o_, c_ ++ [y.f0]) by rw [HT.out, HP.out, mstep, hh, HG.out, hd]; rfl)
              have h3 : (¬ z_.f0.toList = y.f0.toList) ∨ (z_.f0.toList = y.f0.toList ∧ ¬ z_.f1 = y.f1) ∨ (z_.f0.toList = y.f0.toList ∧ z_.f1 = y.f1 ∧ ¬ z_.f2 = y.f2) := by
                by_cases q0 : z_.f0.toList = y.f0.toList
                · by_cases q1 : z_.f1 = y.f1
                  · by_cases q2 : z_.f2 = y.f2
                    · unfold neE at hd
                      rw [q0, q1, q2] at hd
                      simp at hd
                    · exact .inr (.inr ⟨q0, q1, q2⟩)
                  · exact .inr (.inl ⟨q0, q1⟩)
                · exact .inl q0
              clear hh hd
              rcases h3 with hq0 | ⟨hq0, hq1⟩ | ⟨hq0, hq1, hq2⟩
              · go_wp2_with (first | (at_lookup; refine wpList_lookup_E _ rfl _ _ rfl w.heap.size L.length L rfl (MapE_alloc HM.out _) y.f0 rfl HZ.out z_ true HG.out HH.out ?_) | ((with_reducible refine gate_builtin (b := .append) (xs := #[.tmp 60, .tmp 63]) rfl ?_); at_builtin; refine Kd.R_append Kd.string (w0 := w) w.heap.size rfl (.tmp 60) (.tmp 63) 47 9 (.string ⟨#[]⟩) 16 rfl Tryz.underlying47 info9 rfl (by decide) (by omega) u13 c_ y.f0 [.string y.f0] (fun k_ => k_ ≠ w.heap.size) (fun _ => False) rfl (by (go_simp; done)) ?aP (fun _ hk => hk.elim) ?aF ?aO ?aB ?aS ?aL ?_; (case aP => exact rfl); (case aB => exact below_alloc (below_alloc HB.out _) _); (case aF => exact fun k_ hk => (show k_ ≠ w.heap.size from fun e_ => by have h9 := MapE_lt HM.out; rw [e_] at hk; simp at hk; omega)); (case aO => exact Kd.R_alloc (Kd.R_alloc HC.out _) _); (case aS => exact below_size (w := w) (below_alloc (below_alloc HB.out _) _)); (case aL => have := HL2.out; omega); intro v1 w5 ho hb hg hat; have n0_ := Aside0.mk (MapE_grown (MapE_alloc (MapE_alloc HM.out _) _) hg (Kd.R_away HC.out (fun _ hk => hk))); have n1_ := Aside0.mk (Kd.R_over' (Kd.R_alloc (Kd.R_alloc HR.out _) _) (Kd.R_typed (Kd.R_alloc (Kd.R_alloc HC.out _) _)) (by decide) hg); have n2_ := Aside0.mk (Kd.R_over' (Kd.R_alloc (Kd.R_alloc HO.out _) _) (Kd.R_typed (Kd.R_alloc (Kd.R_alloc HC.out _) _)) (by decide) hg); have n3_ := Aside0.mk ho; have n4_ := Aside0.mk hb; clear HM HR HC HO HB ho hb hg hat; have HM := n0_; have HR := n1_; have HO := n2_; have HC := n3_; have HB := n4_; clear n0_ n1_ n2_ n3_ n4_))
                go_roundg (R.length - (j + 1))
                case measure => omega
                case rel => exact ⟨j + 1, by go_num, by omega, Nat.le_refl _, HM, HR, ⟨by rw [HT2.out]; exact HO.out⟩, ⟨by rw [HT2.out]; exact HC.out⟩, HB⟩
              · go_wp2_with (first | (at_lookup; refine wpList_lookup_E _ rfl _ _ rfl w.heap.size L.length L rfl (MapE_alloc HM.out _) y.f0 rfl HZ.out z_ true HG.out HH.out ?_) | ((with_reducible refine gate_builtin (b := .append) (xs := #[.tmp 60, .tmp 63]) rfl ?_); at_builtin; refine Kd.R_append Kd.string (w0 := w) w.heap.size rfl (.tmp 60) (.tmp 63) 47 9 (.string ⟨#[]⟩) 16 rfl Tryz.underlying47 info9 rfl (by decide) (by omega) u13 c_ y.f0 [.string y.f0] (fun k_ => k_ ≠ w.heap.size) (fun _ => False) rfl (by (go_simp; done)) ?aP (fun _ hk => hk.elim) ?aF ?aO ?aB ?aS ?aL ?_; (case aP => exact rfl); (case aB => exact below_alloc (below_alloc HB.out _) _); (case aF => exact fun k_ hk => (show k_ ≠ w.heap.size from fun e_ => by have h9 := MapE_lt HM.out; rw [e_] at hk; simp at hk; omega)); (case aO => exact Kd.R_alloc (Kd.R_alloc HC.out _) _); (case aS => exact below_size (w := w) (below_alloc (below_alloc HB.out _) _)); (case aL => have := HL2.out; omega); intro v1 w5 ho hb hg hat; have n0_ := Aside0.mk (MapE_grown (MapE_alloc (MapE_alloc HM.out _) _) hg (Kd.R_away HC.out (fun _ hk => hk))); have n1_ := Aside0.mk (Kd.R_over' (Kd.R_alloc (Kd.R_alloc HR.out _) _) (Kd.R_typed (Kd.R_alloc (Kd.R_alloc HC.out _) _)) (by decide) hg); have n2_ := Aside0.mk (Kd.R_over' (Kd.R_alloc (Kd.R_alloc HO.out _) _) (Kd.R_typed (Kd.R_alloc (Kd.R_alloc HC.out _) _)) (by decide) hg); have n3_ := Aside0.mk ho; have n4_ := Aside0.mk hb; clear HM HR HC HO HB ho hb hg hat; have HM := n0_; have HR := n1_; have HO := n2_; have HC := n3_; have HB := n4_; clear n0_ n1_ n2_ n3_ n4_))
                go_roundg (R.length - (j + 1))
                case measure => omega
                case rel => exact ⟨j + 1, by go_num, by omega, Nat.le_refl _, HM, HR, ⟨by rw [HT2.out]; exact HO.out⟩, ⟨by rw [HT2.out]; exact HC.out⟩, HB⟩
              · go_wp2_with (first | (at_lookup; refine wpList_lookup_E _ rfl _ _ rfl w.heap.size L.length L rfl (MapE_alloc HM.out _) y.f0 rfl HZ.out z_ true HG.out HH.out ?_) | ((with_reducible refine gate_builtin (b := .append) (xs := #[.tmp 60, .tmp 63]) rfl ?_); at_builtin; refine Kd.R_append Kd.string (w0 := w) w.heap.size rfl (.tmp 60) (.tmp 63) 47 9 (.string ⟨#[]⟩) 16 rfl Tryz.underlying47 info9 rfl (by decide) (by omega) u13 c_ y.f0 [.string y.f0] (fun k_ => k_ ≠ w.heap.size) (fun _ => False) rfl (by (go_simp; done)) ?aP (fun _ hk => hk.elim) ?aF ?aO ?aB ?aS ?aL ?_; (case aP => exact rfl); (case aB => exact below_alloc (below_alloc HB.out _) _); (case aF => exact fun k_ hk => (show k_ ≠ w.heap.size from fun e_ => by have h9 := MapE_lt HM.out; rw [e_] at hk; simp at hk; omega)); (case aO => exact Kd.R_alloc (Kd.R_alloc HC.out _) _); (case aS => exact below_size (w := w) (below_alloc (below_alloc HB.out _) _)); (case aL => have := HL2.out; omega); intro v1 w5 ho hb hg hat; have n0_ := Aside0.mk (MapE_grown (MapE_alloc (MapE_alloc HM.out _) _) hg (Kd.R_away HC.out (fun _ hk => hk))); have n1_ := Aside0.mk (Kd.R_over' (Kd.R_alloc (Kd.R_alloc HR.out _) _) (Kd.R_typed (Kd.R_alloc (Kd.R_alloc HC.out _) _)) (by decide) hg); have n2_ := Aside0.mk (Kd.R_over' (Kd.R_alloc (Kd.R_alloc HO.out _) _) (Kd.R_typed (Kd.R_alloc (Kd.R_alloc HC.out _) _)) (by decide) hg); have n3_ := Aside0.mk ho; have n4_ := Aside0.mk hb; clear HM HR HC HO HB ho hb hg hat; have HM := n0_; have HR := n1_; have HO := n2_; have HC := n3_; have HB := n4_; clear n0_ n1_ n2_ n3_ n4_))
                go_roundg (R.length - (j + 1))
                case measure => omega
                case rel => exact ⟨j + 1, by go_num, by omega, Nat.le_refl _, HM, HR, ⟨by rw [HT2.out]; exact HO.out⟩, ⟨by rw [HT2.out]; exact HC.out⟩, HB⟩
        · have hltz2 : ¬ (j : Int) < (R.length : Int) := by omega
          obtain rfl : j = R.length := by omega
          have HTL := Aside0.mk (show R.take R.length = R from List.take_length)
          rw [HTL.out] at HO HC
          have h := H.out
          clear H
          obtain ⟨A12, c12, e12⟩ := Kd.R_slice HO.out
          subst e12
          obtain ⟨A13, c13, e13⟩ := Kd.R_slice HC.out
          subst e13
          by_cases hc : 0 < (mrg L R).2.length
          · rw [if_pos hc] at h
            simp only [Option.some.injEq, Prod.mk.injEq] at h
            obtain ⟨rfl, rfl, rfl⟩ := h
            have hcz : decide (((mrg L R).2.length : Int) > 0) = true := decide_eq_true (by omega)
            go_wp2
            go_ret3
            exact ⟨_, _, rfl, Kd.R_nil _ _ _ _ _, Kd.R_mono HC.out (fun _ _ => trivial), HB.out⟩
          · rw [if_neg hc] at h
            have hcz : decide (((mrg L R).2.length : Int) > 0) = false := decide_eq_false (by omega)
            obtain ⟨m, h3, h⟩ := Option.bind_eq_some_iff.mp h
            have A3 := Aside0.mk h3
            clear h3
            obtain ⟨⟨t1, t2⟩, h4, h⟩ := Option.bind_eq_some_iff.mp h
            have A4 := Aside0.mk h4
            clear h4
            simp only [Option.some.injEq, Prod.mk.injEq] at h
            obtain ⟨rfl, rfl, rfl⟩ := h
            go_wp2_with (first | (go_at_call 103; (with_reducible refine (impl_edited.calls k _ _ l1 _ _ (mrg L R).1 m _ ?s1 ?s2 ?s3 ?s4 A3.out).mono ?_); (case s1 => exact Kd.C_below HR1.out HB.out); (case s2 => exact HC1.out); (case s3 => exact (Kd.R_reads' HO.out).2.2); (case s4 => exact (Kd.R_reads' HO.out).2.1); rintro e w5 ⟨v5, rfl, ho, hb⟩; have n0_ := Aside0.mk (Kd.R_lower ho (below_size (w := w) HB.out)); have n1_ := Aside0.mk (below_step (w := w) HB.out hb); clear HB ho hb; have HX := n0_; have HB := n1_; clear n0_ n1_) | (go_at_call 102; (with_reducible refine (impl_limited.calls (fun _ => True) _ m t1 t2 w _ HB.out HX.out A4.out).mono ?_); rintro e w6 ⟨v6, rfl, ho, hb, hk⟩; have HY := Aside0.mk ho; have HB6 := Aside0.mk hb; clear ho hb hk))
            go_ret3
            exact ⟨_, _, rfl, Kd.R_mono HY.out (fun _ _ => trivial), Kd.R_nil _ _ _ _ _, HB6.out⟩
end Go.Proofs.YtblejbgkcgajgaaGreat.Q
end

section
namespace Go.Proofs.YtblejbgkcgajgaaGreat.Q
open Go.RowKit Go.Proofs.YtblejbgkcgajgaaGreatW.PrintWords Go.Proofs.YtblejbgkcgajgaaGreatW.PrintLast Go.Proofs.YtblejbgkcgajgaaGreatW.PrintMore
attribute [local go_sem] max2_int min2_int max_two min_two max_three min_three max_four min_four   -- for this text's walks alone
set_option linter.unusedVariables false
set_option linter.unusedSimpArgs false
attribute [local go_sem] bin_leq bin_gtr bin_geq
def impl_mergeCommits.f (k : Nat) (l0 : List (S64)) (a1 : Int) (a2 : Int) : Option ((List (S84)) × List ByteArray × Int) := (impl_baseOf.f k l0 a1 a2).bind fun t628 => (if 0 ≤ (wrap64 (t628 - 1)) then (if (wrap64 (t628 - 1)) < (l0.length : Int) then (if 0 ≤ (wrap64 (a1 - 1)) then (if (wrap64 (a1 - 1)) < (l0.length : Int) then (if 0 ≤ (wrap64 (a2 - 1)) then (if (wrap64 (a2 - 1)) < (l0.length : Int) then ((impl_merge.f k ((rd_T64 l0 (wrap64 (t628 - 1))).f1) ((rd_T64 l0 (wrap64 (a1 - 1))).f1) ((rd_T64 l0 (wrap64 (a2 - 1))).f1)).bind fun bt632 => (some (bt632.1, bt632.2.1, bt632.2.2))) else (none)) else (none)) else (none)) else (none)) else (none)) else (none))
def impl_mergeCommits.T2 : Bool × List (List Nat × List Nat) := (true, [([], []), ([], []), ([1], [1]), ([0, 2], [0, 2]), ([3], [3]), ([4], [4]), ([], []), ([], []), ([7], [7]), ([6, 8], [6, 8]), ([9], [9]), ([10], [10]), ([], []), ([], []), ([13], [13]), ([12, 14], [12, 14]), ([15], [15]), ([16], [16]), ([5, 11, 17], [5, 11, 17]), ([18], [18]), ([18], [18]), ([18], [18]), ([19, 18, 0, 1, 2, 3, 4, 5, 6, 7, 8, 9, 10, 11, 12, 13, 14, 15, 16, 17, 18, 19, 20, 21], [19]), ([20, 22, 0, 1, 2, 3, 4, 5, 6, 7, 8, 9, 10, 11, 12, 13, 14, 15, 16, 17, 18, 19, 20, 21, 22], [20]), ([21, 23, 0, 1, 2, 3, 4, 5, 6, 7, 8, 9, 10, 11, 12, 13, 14, 15, 16, 17, 18, 19, 20, 21, 22, 23], [21])])
def impl_mergeCommits.B2 : List Nat := [0, 0, 2, 7, 15, 31, 0, 0, 128, 448, 960, 1984, 0, 0, 8192, 28672, 61440, 126976, 262143, 524287, 524287, 524287, 4194303, 8388607, 16777215]
theorem impl_mergeCommits.tab2 : rtab .any (opsOf Tryz.f46 2) = impl_mergeCommits.T2 := by kernel_rfl
theorem impl_mergeCommits.bits2 : waitsOk impl_mergeCommits.T2.2 impl_mergeCommits.B2 = true := by kernel_rfl
set_option maxHeartbeats 8000000 in
set_option maxRecDepth 100000 in
theorem impl_mergeCommits.calls (k : Nat) (A0 : Option Addr) (c0 : Nat) (l0 : List (S64)) (a1 : Int) (a2 : Int) (r1 : List (S84)) (r2 : List ByteArray) (r3 : Int) (w : World) (hr0 : Kd.C k64 w A0 l0.length l0) (hc0 : l0.length ≤ c0) (h : impl_mergeCommits.f k l0 a1 a2 = some (r1, r2, r3)) :
    Calls Tryz.prog 46 #[.slice A0 l0.length c0, .int .i64 a1, .int .i64 a2] w fun e w' => ∃ v0_ v1_ : Value, e = .returned (.tuple #[v0_, v1_, .int .i64 r3]) ∧ Kd.R k84 84 w' w.heap.size (fun _ => True) v0_ r1 ∧ Kd.R Kd.string 9 w' w.heap.size (fun _ => True) v1_ r2 ∧ Below w.heap.size w w' := by
  have HR0 := Aside0.mk hr0
  have HC0 := Aside0.mk hc0
  clear hr0 hc0
  have HB := Aside0.mk (Below.refl w.heap.size w)
  have H : ((impl_baseOf.f k l0 a1 a2).bind fun t628 => (if 0 ≤ (wrap64 (t628 - 1)) then (if (wrap64 (t628 - 1)) < (l0.length : Int) then (if 0 ≤ (wrap64 (a1 - 1)) then (if (wrap64 (a1 - 1)) < (l0.length : Int) then (if 0 ≤ (wrap64 (a2 - 1)) then (if (wrap64 (a2 - 1)) < (l0.length : Int) then ((impl_merge.f k ((rd_T64 l0 (wrap64 (t628 - 1))).f1) ((rd_T64 l0 (wrap64 (a1 - 1))).f1) ((rd_T64 l0 (wrap64 (a2 - 1))).f1)).bind fun bt632 => (some (bt632.1, bt632.2.1, bt632.2.2))) else (none)) else (none)) else (none)) else (none)) else (none)) else (none))) = some (r1, r2, r3) := h
  clear h
  replace H := Option.bind_eq_some_iff.mp H
  obtain ⟨t628, A40, H⟩ := H
  replace H : (if 0 ≤ (wrap64 (t628 - 1)) then (if (wrap64 (t628 - 1)) < (l0.length : Int) then (if 0 ≤ (wrap64 (a1 - 1)) then (if (wrap64 (a1 - 1)) < (l0.length : Int) then (if 0 ≤ (wrap64 (a2 - 1)) then (if (wrap64 (a2 - 1)) < (l0.length : Int) then ((impl_merge.f k ((rd_T64 l0 (wrap64 (t628 - 1))).f1) ((rd_T64 l0 (wrap64 (a1 - 1))).f1) ((rd_T64 l0 (wrap64 (a2 - 1))).f1)).bind fun bt632 => (some (bt632.1, bt632.2.1, bt632.2.2))) else (none)) else (none)) else (none)) else (none)) else (none)) else (none)) = some (r1, r2, r3) := H
  have A4 := Aside0.mk A40
  clear A40
  obtain ⟨ji5, hji5⟩ : ∃ j_ : Int, (wrap64 (t628 - 1)) = j_ := ⟨_, rfl⟩
  replace H : (if 0 ≤ (ji5) then (if (ji5) < (l0.length : Int) then (if 0 ≤ (wrap64 (a1 - 1)) then (if (wrap64 (a1 - 1)) < (l0.length : Int) then (if 0 ≤ (wrap64 (a2 - 1)) then (if (wrap64 (a2 - 1)) < (l0.length : Int) then ((impl_merge.f k ((rd_T64 l0 (ji5)).f1) ((rd_T64 l0 (wrap64 (a1 - 1))).f1) ((rd_T64 l0 (wrap64 (a2 - 1))).f1)).bind fun bt632 => (some (bt632.1, bt632.2.1, bt632.2.2))) else (none)) else (none)) else (none)) else (none)) else (none)) else (none)) = some (r1, r2, r3) := by (rw [hji5] at H; exact H)
  have hji5w : (IntKind.i64.wrap (t628 - 1)) = ji5 := (i64_w _).trans hji5
  by_cases c6 : 0 ≤ (ji5)
  · rw [if_pos c6] at H
    have c6b0 : decide (0 ≤ (ji5)) = true := decide_eq_true c6
    clear c6
    by_cases c7 : (ji5) < (l0.length : Int)
    · rw [if_pos c7] at H
      have c7b0 : decide ((ji5) < (l0.length : Int)) = true := decide_eq_true c7
      clear c7
      obtain ⟨ji8, hji8⟩ : ∃ j_ : Int, (wrap64 (a1 - 1)) = j_ := ⟨_, rfl⟩
      replace H : (if 0 ≤ (ji8) then (if (ji8) < (l0.length : Int) then (if 0 ≤ (wrap64 (a2 - 1)) then (if (wrap64 (a2 - 1)) < (l0.length : Int) then ((impl_merge.f k ((rd_T64 l0 (ji5)).f1) ((rd_T64 l0 (ji8)).f1) ((rd_T64 l0 (wrap64 (a2 - 1))).f1)).bind fun bt632 => (some (bt632.1, bt632.2.1, bt632.2.2))) else (none)) else (none)) else (none)) else (none)) = some (r1, r2, r3) := by (rw [hji8] at H; exact H)
      have hji8w : (IntKind.i64.wrap (a1 - 1)) = ji8 := (i64_w _).trans hji8
      by_cases c9 : 0 ≤ (ji8)
      · rw [if_pos c9] at H
        have c9b0 : decide (0 ≤ (ji8)) = true := decide_eq_true c9
        clear c9
        by_cases c10 : (ji8) < (l0.length : Int)
        · rw [if_pos c10] at H
          have c10b0 : decide ((ji8) < (l0.length : Int)) = true := decide_eq_true c10
          clear c10
          obtain ⟨ji11, hji11⟩ : ∃ j_ : Int, (wrap64 (a2 - 1)) = j_ := ⟨_, rfl⟩
          replace H : (if 0 ≤ (ji11) then (if (ji11) < (l0.length : Int) then ((impl_merge.f k ((rd_T64 l0 (ji5)).f1) ((rd_T64 l0 (ji8)).f1) ((rd_T64 l0 (ji11)).f1)).bind fun bt632 => (some (bt632.1, bt632.2.1, bt632.2.2))) else (none)) else (none)) = some (r1, r2, r3) := by (rw [hji11] at H; exact H)
          have hji11w : (IntKind.i64.wrap (a2 - 1)) = ji11 := (i64_w _).trans hji11
          by_cases c12 : 0 ≤ (ji11)
          · rw [if_pos c12] at H
            have c12b0 : decide (0 ≤ (ji11)) = true := decide_eq_true c12
            clear c12
            by_cases c13 : (ji11) < (l0.length : Int)
            · rw [if_pos c13] at H
              have c13b0 : decide ((ji11) < (l0.length : Int)) = true := decide_eq_true c13
              clear c13
              replace H := Option.bind_eq_some_iff.mp H
              obtain ⟨⟨t632, t633, t634⟩, A140, H⟩ := H
              replace H : (some (t632, t633, t634)) = some (r1, r2, r3) := H
              have A14 := Aside0.mk A140
              clear A140
              simp only [Option.some.injEq, Prod.mk.injEq] at H
              obtain ⟨rfl, rfl, rfl⟩ := H
              go_enter Tryz.func46, Tryz.ntmps46
              try go_wp2_with (((with_reducible refine gate_callee (f := 75) rfl ?_); refine goesL_ (some 13) rfl rfl Tryz.func75 (by kernel_rfl) rfl #[.slice A0 l0.length c0, .int .i64 a1, .int .i64 a2] rfl gA ?_; (with_reducible refine (impl_baseOf.calls k _ _ l0 a1 a2 t628 _ ?side1 ?side2 A4.out).mono ?_); (case side1 => exact cN HR0); (case side2 => exact HC0.out); rintro e w15 ⟨rfl, hb⟩; refine ⟨_, rfl, ?_⟩; have n0_ := Aside0.mk (below_step (w := w) bW hb); clear HB; have HB := n0_; clear n0_; (try clear hb)))
              have n0_ := Aside0.mk (below_drew1 HB.out)
              clear HB
              have HB := n0_
              clear n0_
              have p629 : 0 ≤ ((ji5) : Int) := odt
              have q629 : (ji5) < (l0.length : Int) := odt
              obtain ⟨ad629, A629_0, c629_0, A629_1, c629_1, e629, hx629_0, hx629_1, hl629_0, hi629_0, hl629_1, hi629_1⟩ := at_T64 HR0.out (ji5) p629 q629
              have hw629_1 := hx629_1
              have hw629_0 := hx629_0
              cases e629
              replace hx629_0 := (HB.out.cell (World.block_lt_of_cell? w _ hx629_0)).trans hx629_0
              replace hx629_1 := (HB.out.cell (World.block_lt_of_cell? w _ hx629_1)).trans hx629_1
              have HR629_0 := Aside0.mk hi629_0
              have HC629_0 := Aside0.mk hl629_0
              clear hi629_0 hl629_0
              have HR629_1 := Aside0.mk hi629_1
              have HC629_1 := Aside0.mk hl629_1
              clear hi629_1 hl629_1
              replace p629 := eq_true p629
              replace q629 := eq_true q629
              have p630 : 0 ≤ ((ji8) : Int) := odt
              have q630 : (ji8) < (l0.length : Int) := odt
              obtain ⟨ad630, A630_0, c630_0, A630_1, c630_1, e630, hx630_0, hx630_1, hl630_0, hi630_0, hl630_1, hi630_1⟩ := at_T64 HR0.out (ji8) p630 q630
              have hw630_1 := hx630_1
              have hw630_0 := hx630_0
              obtain rfl : ad629 = ad630 := (by injection e630)
              replace hx630_0 := (HB.out.cell (World.block_lt_of_cell? w _ hx630_0)).trans hx630_0
              replace hx630_1 := (HB.out.cell (World.block_lt_of_cell? w _ hx630_1)).trans hx630_1
              have HR630_0 := Aside0.mk hi630_0
              have HC630_0 := Aside0.mk hl630_0
              clear hi630_0 hl630_0
              have HR630_1 := Aside0.mk hi630_1
              have HC630_1 := Aside0.mk hl630_1
              clear hi630_1 hl630_1
              replace p630 := eq_true p630
              replace q630 := eq_true q630
              have p631 : 0 ≤ ((ji11) : Int) := odt
              have q631 : (ji11) < (l0.length : Int) := odt
              obtain ⟨ad631, A631_0, c631_0, A631_1, c631_1, e631, hx631_0, hx631_1, hl631_0, hi631_0, hl631_1, hi631_1⟩ := at_T64 HR0.out (ji11) p631 q631
              have hw631_1 := hx631_1
              have hw631_0 := hx631_0
              obtain rfl : ad629 = ad631 := (by injection e631)
              replace hx631_0 := (HB.out.cell (World.block_lt_of_cell? w _ hx631_0)).trans hx631_0
              replace hx631_1 := (HB.out.cell (World.block_lt_of_cell? w _ hx631_1)).trans hx631_1
              have HR631_0 := Aside0.mk hi631_0
              have HC631_0 := Aside0.mk hl631_0
              clear hi631_0 hl631_0
              have HR631_1 := Aside0.mk hi631_1
              have HC631_1 := Aside0.mk hl631_1
              clear hi631_1 hl631_1
              replace p631 := eq_true p631
              replace q631 := eq_true q631
              refine start_ (n := 25) (S := fun w' => w'.cell? (ad629.add (((ji5)).toNat * 2)) = some (.slice A629_0 ((rd_T64 l0 (ji5)).f0).length c629_0) ∧ w'.cell? ⟨(ad629.add (((ji5)).toNat * 2)).block, (ad629.add (((ji5)).toNat * 2)).off + 1, none⟩ = some (.slice A629_1 ((rd_T64 l0 (ji5)).f1).length c629_1) ∧ w'.cell? (ad629.add (((ji8)).toNat * 2)) = some (.slice A630_0 ((rd_T64 l0 (ji8)).f0).length c630_0) ∧ w'.cell? ⟨(ad629.add (((ji8)).toNat * 2)).block, (ad629.add (((ji8)).toNat * 2)).off + 1, none⟩ = some (.slice A630_1 ((rd_T64 l0 (ji8)).f1).length c630_1) ∧ w'.cell? (ad629.add (((ji11)).toNat * 2)) = some (.slice A631_0 ((rd_T64 l0 (ji11)).f0).length c631_0) ∧ w'.cell? ⟨(ad629.add (((ji11)).toNat * 2)).block, (ad629.add (((ji11)).toNat * 2)).off + 1, none⟩ = some (.slice A631_1 ((rd_T64 l0 (ji11)).f1).length c631_1)) (ds := []) (bs 25 0) (by kernel_rfl) rfl rfl ⟨((HB.out.cell (World.block_lt_of_cell? w _ hw629_0)).trans hw629_0), ((HB.out.cell (World.block_lt_of_cell? w _ hw629_1)).trans hw629_1), ((HB.out.cell (World.block_lt_of_cell? w _ hw630_0)).trans hw630_0), ((HB.out.cell (World.block_lt_of_cell? w _ hw630_1)).trans hw630_1), ((HB.out.cell (World.block_lt_of_cell? w _ hw631_0)).trans hw631_0), ((HB.out.cell (World.block_lt_of_cell? w _ hw631_1)).trans hw631_1)⟩ (fun hHeld => ?_); refine with_tabW impl_mergeCommits.tab2 impl_mergeCommits.bits2 (fun HT_ HW_ => ?_)
              generalize w15.drew = w16 at HB HR629_0 HR629_1 HR630_0 HR630_1 HR631_0 HR631_1 hx629_0 hx629_1 hx630_0 hx630_1 hx631_0 hx631_1 hHeld ⊢
              refine pz 0 14 (bs 25 1) HT_ ?_
              refine pz 1 15 (bs 25 3) HT_ ?_
              refine pz 2 16 (bs 25 7) HT_ ?_
              refine pz 3 17 (bs 25 15) HT_ ?_
              refine pz 4 18 (bs 25 31) HT_ ?_
              refine pz 6 20 (bs 25 95) HT_ ?_
              refine pz 7 21 (bs 25 223) HT_ ?_
              refine pz 8 22 (bs 25 479) HT_ ?_
              refine pz 9 23 (bs 25 991) HT_ ?_
              refine pz 10 24 (bs 25 2015) HT_ ?_
              refine pz 12 26 (bs 25 6111) HT_ ?_
              refine pz 13 27 (bs 25 14303) HT_ ?_
              refine pz 14 28 (bs 25 30687) HT_ ?_
              refine pz 15 29 (bs 25 63455) HT_ ?_
              refine pz 16 30 (bs 25 128991) HT_ ?_
              refine tz 5 19 (bs 25 129023) HT_ HW_ hHeld ?_
              refine tz 11 25 (bs 25 131071) HT_ HW_ hHeld ?_
              refine tz 17 31 (bs 25 262143) HT_ HW_ hHeld ?_
              refine one_ (i := 18) (N := some 32) (bs 25 524287) rfl rfl (one_of HT_.out (by kernel_rfl)) (by decide) (fun K hK => ?_)
              refine goes_ Tryz.func76 (by kernel_rfl) rfl #[.slice A629_1 ((rd_T64 l0 (ji5)).f1).length c629_1, .slice A630_1 ((rd_T64 l0 (ji8)).f1).length c630_1, .slice A631_1 ((rd_T64 l0 (ji11)).f1).length c631_1] (by rfl) rfl rfl (by (try simp only [List.map_toArray, List.map_cons, List.map_nil]); rfl) ?_
              with_reducible refine (impl_merge.calls k _ _ ((rd_T64 l0 (ji5)).f1) _ _ ((rd_T64 l0 (ji8)).f1) _ _ ((rd_T64 l0 (ji11)).f1) t632 t633 t634 _ ?side1 ?side2 ?side3 ?side4 ?side5 ?side6 A14.out).mono ?_
              (case side1 => exact cB HR629_1)
              (case side2 => exact HC629_1.out)
              (case side3 => exact cB HR630_1)
              (case side4 => exact HC630_1.out)
              (case side5 => exact cB HR631_1)
              (case side6 => exact HC631_1.out)
              rintro e w17 ⟨v635, v637, rfl, ho0, ho1, hb⟩
              refine ⟨_, rfl, ?_⟩
              have n0_ := Aside0.mk (Kd.R_lower ho0 (below_size (w := w) bW))
              have n1_ := Aside0.mk (Kd.R_lower ho1 (below_size (w := w) bW))
              have n2_ := Aside0.mk (below_step (w := w) bW hb)
              clear HB
              have HO636 := n0_
              have HO638 := n1_
              have HB := n2_
              clear n0_ n1_ n2_
              (try clear hb)
              (try clear ho0)
              (try clear ho1)
              refine hK.out _ _ ⟨((HB.out.cell (World.block_lt_of_cell? w _ hw629_0)).trans hw629_0), ((HB.out.cell (World.block_lt_of_cell? w _ hw629_1)).trans hw629_1), ((HB.out.cell (World.block_lt_of_cell? w _ hw630_0)).trans hw630_0), ((HB.out.cell (World.block_lt_of_cell? w _ hw630_1)).trans hw630_1), ((HB.out.cell (World.block_lt_of_cell? w _ hw631_0)).trans hw631_0), ((HB.out.cell (World.block_lt_of_cell? w _ hw631_1)).trans hw631_1)⟩ (fun hHeld => ?_)
              clear hK K
              refine norm_ (a' := ?_) ?_ ?_
              rotate_left
              · show Act.put _ (some 32) _ = _
                simp only [Act.put, List.setIfInBounds_toArray, List.set_cons_zero, List.set_cons_succ, i64_w, i32_w]
                rfl
              refine pz 19 33 (bs 25 1048575) HT_ ?_
              refine pz 20 34 (bs 25 2097151) HT_ ?_
              refine pz 21 35 (bs 25 4194303) HT_ ?_
              refine pz 22 6 (bs 25 8388607) HT_ ?_
              refine pz 23 7 (bs 25 16777215) HT_ ?_
              refine pz 24 8 (bs 25 33554431) HT_ ?_
              refine done_ (done_of HT_.out (by kernel_rfl)) ?_
              try go_wp2
              go_ret3
              exact ⟨_, _, by rfl, by exact HO636.out, by exact HO638.out, bW⟩
            · rw [if_neg c13] at H
              exact absurd H (by simp)
          · rw [if_neg c12] at H
            exact absurd H (by simp)
        · rw [if_neg c10] at H
          exact absurd H (by simp)
      · rw [if_neg c9] at H
        exact absurd H (by simp)
    · rw [if_neg c7] at H
      exact absurd H (by simp)
  · rw [if_neg c6] at H
    exact absurd H (by simp)
end Go.Proofs.YtblejbgkcgajgaaGreat.Q
end

section
namespace Go.Proofs.YtblejbgkcgajgaaGreat.Q
open Go.RowKit Go.Proofs.YtblejbgkcgajgaaGreatW.PrintWords Go.Proofs.YtblejbgkcgajgaaGreatW.PrintLast Go.Proofs.YtblejbgkcgajgaaGreatW.PrintMore
attribute [local go_sem] max2_int min2_int max_two min_two max_three min_three max_four min_four   -- for this text's walks alone
set_option linter.unusedVariables false
set_option linter.unusedSimpArgs false
attribute [local go_sem] bin_leq bin_gtr bin_geq
def impl_MergeCommits.f (k : Nat) (l0 : List (S64)) (a1 : Int) (a2 : Int) : Option ((List (S84)) × List ByteArray × Int) := (impl_idCode.f k l0 (([a1, a2] : List Int))).bind fun t642 => (if t642 = 0 then ((impl_mergeCommits.f k l0 a1 a2).bind fun bt643 => (some (bt643.1, bt643.2.1, bt643.2.2))) else (some (([] : List (S84)), ([] : List ByteArray), t642)))
set_option maxHeartbeats 8000000 in
set_option maxRecDepth 100000 in
theorem impl_MergeCommits.calls (k : Nat) (A0 : Option Addr) (c0 : Nat) (l0 : List (S64)) (a1 : Int) (a2 : Int) (r1 : List (S84)) (r2 : List ByteArray) (r3 : Int) (w : World) (hr0 : Kd.C k64 w A0 l0.length l0) (hc0 : l0.length ≤ c0) (h : impl_MergeCommits.f k l0 a1 a2 = some (r1, r2, r3)) :
    Calls Tryz.prog 19 #[.slice A0 l0.length c0, .int .i64 a1, .int .i64 a2] w fun e w' => ∃ v0_ v1_ : Value, e = .returned (.tuple #[v0_, v1_, .int .i64 r3]) ∧ Kd.R k84 84 w' w.heap.size (fun _ => True) v0_ r1 ∧ Kd.R Kd.string 9 w' w.heap.size (fun _ => True) v1_ r2 ∧ Below w.heap.size w w' := by
  have HR0 := Aside0.mk hr0
  have HC0 := Aside0.mk hc0
  clear hr0 hc0
  have HB := Aside0.mk (Below.refl w.heap.size w)
  have H : ((impl_idCode.f k l0 (([a1, a2] : List Int))).bind fun t642 => (if t642 = 0 then ((impl_mergeCommits.f k l0 a1 a2).bind fun bt643 => (some (bt643.1, bt643.2.1, bt643.2.2))) else (some (([] : List (S84)), ([] : List ByteArray), t642)))) = some (r1, r2, r3) := h
  clear h
  obtain ⟨y639, hy639⟩ : ∃ y_ : List Int, y_ = (([a1, a2] : List Int)) := ⟨_, rfl⟩
  replace H : ((impl_idCode.f k l0 y639).bind fun t642 => (if t642 = 0 then ((impl_mergeCommits.f k l0 a1 a2).bind fun bt643 => (some (bt643.1, bt643.2.1, bt643.2.2))) else (some (([] : List (S84)), ([] : List ByteArray), t642)))) = some (r1, r2, r3) := by (rw [hy639]; with_reducible exact H)
  have Ny639 := Aside0.mk hy639
  clear hy639
  replace H := Option.bind_eq_some_iff.mp H
  obtain ⟨t642, A40, H⟩ := H
  replace H : (if t642 = 0 then ((impl_mergeCommits.f k l0 a1 a2).bind fun bt643 => (some (bt643.1, bt643.2.1, bt643.2.2))) else (some (([] : List (S84)), ([] : List ByteArray), t642))) = some (r1, r2, r3) := H
  have A4 := Aside0.mk A40
  clear A40
  by_cases c5 : t642 = 0
  · rw [if_pos c5] at H
    have c5b0 : (t642 == 0) = true := beq_iff_eq.mpr c5
    have c5b1 : (t642 != 0) = false := bne_eq_false_iff_eq.mpr c5
    clear c5
    replace H := Option.bind_eq_some_iff.mp H
    obtain ⟨⟨t643, t644, t645⟩, A60, H⟩ := H
    replace H : (some (t643, t644, t645)) = some (r1, r2, r3) := H
    have A6 := Aside0.mk A60
    clear A60
    simp only [Option.some.injEq, Prod.mk.injEq] at H
    obtain ⟨rfl, rfl, rfl⟩ := H
    go_enter Tryz.func19, Tryz.ntmps19
    go_wp2_with (first | ((with_reducible refine gate_dst (N := 13) rfl ?_); refine Kd.R_lit (Kd.int .i64) _ 3 ?hg (N := 13) ?hd (xs := ([a1, a2] : List Int)) (inner := [.int .i64 a1, .int .i64 a2]) (ok := fun _ => True) (okp := fun _ => True) ?hr ?hp (fun _ hk => hk) trivial (Below.refl _ _) (Nat.le_refl _) (by simp) ?_; (case hd => rfl); (case hg => rfl); (case hr => (go_simp; done)); (case hp => exact (Reps.one (show Kd.M (Kd.int .i64) _ _ _ a1 [.int .i64 a1] from rfl) (Reps.one (show Kd.M (Kd.int .i64) _ _ _ a2 [.int .i64 a2] from rfl) (Reps.none _ _)))); intro v640 w7 ho8 hb hg_ hnew_; clear hg_ hnew_; (rw [← Ny639.out] at ho8); have n0_ := Aside0.mk (Kd.R_lower ho8 (below_size (w := w) bW)); have n1_ := Aside0.mk (below_step (w := w) bW hb); clear HB; have HO641 := n0_; have HB := n1_; clear n0_ n1_; clear hb ho8; obtain ⟨Ao9, co9, eo9⟩ := Kd.R_slice HO641.out; subst eo9) | ((with_reducible refine gate_callee (f := 45) rfl ?_); refine goesL_ (some 14) rfl rfl Tryz.func45 (by kernel_rfl) rfl #[.slice A0 l0.length c0, .slice Ao9 y639.length co9] rfl gA ?_; (with_reducible refine (impl_idCode.calls k _ _ l0 _ _ y639 t642 _ ?side1 ?side2 ?side3 ?side4 A4.out).mono ?_); (case side1 => exact cB HR0); (case side2 => exact HC0.out); (case side3 => repeat (exact (Kd.R_reads' HO641.out).2.2)); (case side4 => exact (Kd.R_reads' HO641.out).2.1); rintro e w10 ⟨rfl, hb⟩; refine ⟨_, rfl, ?_⟩; have n0_ := Aside0.mk (Kd.R_below (pR HO641) hb); have n1_ := Aside0.mk (below_step (w := w) bW hb); clear HO641; clear HB; have HO641 := n0_; have HB := n1_; clear n0_ n1_; (try clear hb)) | ((with_reducible refine gate_callee (f := 46) rfl ?_); refine goesL_ (some 21) rfl rfl Tryz.func46 (by kernel_rfl) rfl #[.slice A0 l0.length c0, .int .i64 a1, .int .i64 a2] rfl gA ?_; (with_reducible refine (impl_mergeCommits.calls k _ _ l0 a1 a2 t643 t644 t645 _ ?side1 ?side2 A6.out).mono ?_); (case side1 => exact cB HR0); (case side2 => exact HC0.out); rintro e w11 ⟨v646, v648, rfl, ho0, ho1, hb⟩; refine ⟨_, rfl, ?_⟩; have n0_ := Aside0.mk (Kd.R_below (pR HO641) hb); have n1_ := Aside0.mk (Kd.R_lower ho0 (below_size (w := w) bW)); have n2_ := Aside0.mk (Kd.R_lower ho1 (below_size (w := w) bW)); have n3_ := Aside0.mk (below_step (w := w) bW hb); clear HO641; clear HB; have HO641 := n0_; have HO647 := n1_; have HO649 := n2_; have HB := n3_; clear n0_ n1_ n2_ n3_; (try clear hb); (try clear ho0); (try clear ho1)))
    go_ret3
    exact ⟨_, _, by rfl, by exact HO647.out, by exact HO649.out, bW⟩
  · rw [if_neg c5] at H
    have c5b0 : (t642 == 0) = false := beq_eq_false_iff_ne.mpr c5
    have c5b1 : (t642 != 0) = true := bne_iff_ne.mpr c5
    simp only [Option.some.injEq, Prod.mk.injEq] at H
    obtain ⟨rfl, rfl, rfl⟩ := H
    go_enter Tryz.func19, Tryz.ntmps19
    go_wp2_with (first | ((with_reducible refine gate_dst (N := 13) rfl ?_); refine Kd.R_lit (Kd.int .i64) _ 3 ?hg (N := 13) ?hd (xs := ([a1, a2] : List Int)) (inner := [.int .i64 a1, .int .i64 a2]) (ok := fun _ => True) (okp := fun _ => True) ?hr ?hp (fun _ hk => hk) trivial (Below.refl _ _) (Nat.le_refl _) (by simp) ?_; (case hd => rfl); (case hg => rfl); (case hr => (go_simp; done)); (case hp => exact (Reps.one (show Kd.M (Kd.int .i64) _ _ _ a1 [.int .i64 a1] from rfl) (Reps.one (show Kd.M (Kd.int .i64) _ _ _ a2 [.int .i64 a2] from rfl) (Reps.none _ _)))); intro v640 w12 ho13 hb hg_ hnew_; clear hg_ hnew_; (rw [← Ny639.out] at ho13); have n0_ := Aside0.mk (Kd.R_lower ho13 (below_size (w := w) bW)); have n1_ := Aside0.mk (below_step (w := w) bW hb); clear HB; have HO641 := n0_; have HB := n1_; clear n0_ n1_; clear hb ho13; obtain ⟨Ao14, co14, eo14⟩ := Kd.R_slice HO641.out; subst eo14) | ((with_reducible refine gate_callee (f := 45) rfl ?_); refine goesL_ (some 14) rfl rfl Tryz.func45 (by kernel_rfl) rfl #[.slice A0 l0.length c0, .slice Ao14 y639.length co14] rfl gA ?_; (with_reducible refine (impl_idCode.calls k _ _ l0 _ _ y639 t642 _ ?side1 ?side2 ?side3 ?side4 A4.out).mono ?_); (case side1 => exact cB HR0); (case side2 => exact HC0.out); (case side3 => repeat (exact (Kd.R_reads' HO641.out).2.2)); (case side4 => exact (Kd.R_reads' HO641.out).2.1); rintro e w15 ⟨rfl, hb⟩; refine ⟨_, rfl, ?_⟩; have n0_ := Aside0.mk (Kd.R_below (pR HO641) hb); have n1_ := Aside0.mk (below_step (w := w) bW hb); clear HO641; clear HB; have HO641 := n0_; have HB := n1_; clear n0_ n1_; (try clear hb)))
    go_ret3
    exact ⟨_, _, by rfl, by exact Kd.R_nil _ _ _ _ _, by exact Kd.R_nil _ _ _ _ _, bW⟩
end Go.Proofs.YtblejbgkcgajgaaGreat.Q
end

section
namespace Go.Proofs.YtblejbgkcgajgaaGreat.Q
open Go.RowKit Go.Proofs.YtblejbgkcgajgaaGreatW.PrintWords Go.Proofs.YtblejbgkcgajgaaGreatW.PrintLast Go.Proofs.YtblejbgkcgajgaaGreatW.PrintMore
attribute [local go_sem] max2_int min2_int max_two min_two max_three min_three max_four min_four   -- for this text's walks alone
set_option linter.unusedVariables false
set_option linter.unusedSimpArgs false
attribute [local go_sem] bin_leq bin_gtr bin_geq
def laws_eqStringS.l0 : Nat → List ByteArray → List ByteArray → Int → Option (Bool)
  | 0, _, _, _ => none
  | k + 1, x0, x1, x5 => if x5 < (x0.length : Int) then (if 0 ≤ x5 then (if x5 < (x1.length : Int) then (if (rdOf ByteArray.empty x0 x5).toList = (rdOf ByteArray.empty x1 x5).toList then (laws_eqStringS.l0 k x0 x1 (wrap64 (x5 + 1))) else (some false)) else (none)) else (none)) else (some true)
def laws_eqStringS.f (k : Nat) (l0 : List ByteArray) (l1 : List ByteArray) : Option (Bool) := if (l0.length : Int) = (l1.length : Int) then (laws_eqStringS.l0 k l0 l1 0) else (some false)
set_option maxHeartbeats 8000000 in
set_option maxRecDepth 100000 in
theorem laws_eqStringS.calls (k : Nat) (A0 : Option Addr) (c0 : Nat) (l0 : List ByteArray) (A1 : Option Addr) (c1 : Nat) (l1 : List ByteArray) (r : Bool) (w : World) (hr0 : Kd.C Kd.string w A0 l0.length l0) (hc0 : l0.length ≤ c0) (hr1 : Kd.C Kd.string w A1 l1.length l1) (hc1 : l1.length ≤ c1) (h : laws_eqStringS.f k l0 l1 = some r) :
    Calls Tryz.prog 21 #[.slice A0 l0.length c0, .slice A1 l1.length c1] w fun e w' => e = .returned (.bool r) ∧ Drawn0 w w' := by
  have HR0 := Aside0.mk hr0
  have HC0 := Aside0.mk hc0
  clear hr0 hc0
  have HR1 := Aside0.mk hr1
  have HC1 := Aside0.mk hc1
  clear hr1 hc1
  have H : (if (l0.length : Int) = (l1.length : Int) then (laws_eqStringS.l0 k l0 l1 0) else (some false)) = some r := h
  clear h
  by_cases c3 : (l0.length : Int) = (l1.length : Int)
  · rw [if_pos c3] at H
    have c3b0 : ((l0.length : Int) == (l1.length : Int)) = true := beq_iff_eq.mpr c3
    have c3b1 : ((l0.length : Int) != (l1.length : Int)) = false := bne_eq_false_iff_eq.mpr c3
    have c3b2 : (l0.length == l1.length) = true := by (simp at c3 ⊢; omega)
    clear c3
    have H' := Aside0.mk H
    clear H
    go_enter Tryz.func21, Tryz.ntmps21
    go_wp2
    go_loopg [5] k (fun kq v5 w' => ∃ (x5_1 : Int), v5 = .int .i64 x5_1 ∧ Aside0 (laws_eqStringS.l0 kq l0 l1 x5_1 = some r) ∧ Aside0 (kq ≤ k) ∧ Drawn0 w w')
    case atStart => exact ⟨(0), vE, H', ⟨Nat.le_refl _⟩, by repeat (exact Drawn0.refl _)⟩
    case round =>
      clear H'
      try clear c3b0
      try clear c3b1
      try clear c3b2
      obtain ⟨x5_1, rfl, HA, HK1, ⟨m1, rfl⟩⟩ := hrel
      cases gk with
      | zero => exact absurd HA.out (by simp [laws_eqStringS.l0])
      | succ k1 =>
        have H := HA.out
        clear HA
        simp only [laws_eqStringS.l0] at H
        by_cases c4 : x5_1 < (l0.length : Int)
        · rw [if_pos c4] at H
          have c4b0 : decide (x5_1 < (l0.length : Int)) = true := decide_eq_true c4
          clear c4
          by_cases c5 : 0 ≤ x5_1
          · rw [if_pos c5] at H
            have c5b0 : decide (0 ≤ x5_1) = true := decide_eq_true c5
            clear c5
            by_cases c6 : x5_1 < (l1.length : Int)
            · rw [if_pos c6] at H
              have c6b0 : decide (x5_1 < (l1.length : Int)) = true := decide_eq_true c6
              clear c6
              by_cases c7 : (rdOf ByteArray.empty l0 x5_1).toList = (rdOf ByteArray.empty l1 x5_1).toList
              · rw [if_pos c7] at H
                have c7b0 : ((rdOf ByteArray.empty l0 x5_1).toList == (rdOf ByteArray.empty l1 x5_1).toList) = true := beq_iff_eq.mpr c7
                have c7b1 : ((rdOf ByteArray.empty l0 x5_1).toList != (rdOf ByteArray.empty l1 x5_1).toList) = false := bne_eq_false_iff_eq.mpr c7
                clear c7
                have H' := Aside0.mk H
                clear H
                have p650 : 0 ≤ (x5_1 : Int) := odt
                have q650 : x5_1 < (l0.length : Int) := odt
                obtain ⟨ad650, e650, hx650_0⟩ := Kd.at_string HR0.out x5_1 p650 q650
                cases e650
                replace p650 := eq_true p650
                replace q650 := eq_true q650
                have p651 : 0 ≤ (x5_1 : Int) := odt
                have q651 : x5_1 < (l1.length : Int) := odt
                obtain ⟨ad651, e651, hx651_0⟩ := Kd.at_string HR1.out x5_1 p651 q651
                cases e651
                replace p651 := eq_true p651
                replace q651 := eq_true q651
                go_wp2
                repeat (go_quiet (fail); try go_wp2)
                go_roundg k1
                case measure => have := HK1.out; omega
                case rel => exact ⟨(wrap64 (x5_1 + 1)), vE, H', ⟨by have := HK1.out; omega⟩, by repeat (first | exact Drawn0.refl _ | apply Drawn0.step)⟩
              · rw [if_neg c7] at H
                have c7b0 : ((rdOf ByteArray.empty l0 x5_1).toList == (rdOf ByteArray.empty l1 x5_1).toList) = false := beq_eq_false_iff_ne.mpr c7
                have c7b1 : ((rdOf ByteArray.empty l0 x5_1).toList != (rdOf ByteArray.empty l1 x5_1).toList) = true := bne_iff_ne.mpr c7
                obtain rfl := Option.some.inj H
                have p650 : 0 ≤ (x5_1 : Int) := odt
                have q650 : x5_1 < (l0.length : Int) := odt
                obtain ⟨ad650, e650, hx650_0⟩ := Kd.at_string HR0.out x5_1 p650 q650
                cases e650
                replace p650 := eq_true p650
                replace q650 := eq_true q650
                have p651 : 0 ≤ (x5_1 : Int) := odt
                have q651 : x5_1 < (l1.length : Int) := odt
                obtain ⟨ad651, e651, hx651_0⟩ := Kd.at_string HR1.out x5_1 p651 q651
                cases e651
                replace p651 := eq_true p651
                replace q651 := eq_true q651
                go_wp2
                repeat (go_quiet (fail); try go_wp2)
                go_ret
                exact ⟨by rfl, by repeat (first | exact Drawn0.refl _ | apply Drawn0.step)⟩
            · rw [if_neg c6] at H
              exact absurd H (by simp)
          · rw [if_neg c5] at H
            exact absurd H (by simp)
        · rw [if_neg c4] at H
          have c4b0 : decide (x5_1 < (l0.length : Int)) = false := decide_eq_false c4
          clear c4
          obtain rfl := Option.some.inj H
          go_wp2
          go_ret
          exact ⟨by rfl, by repeat (first | exact Drawn0.refl _ | apply Drawn0.step)⟩
  · rw [if_neg c3] at H
    have c3b0 : ((l0.length : Int) == (l1.length : Int)) = false := beq_eq_false_iff_ne.mpr c3
    have c3b1 : ((l0.length : Int) != (l1.length : Int)) = true := bne_iff_ne.mpr c3
    have c3b2 : (l0.length == l1.length) = false := by (simp at c3 ⊢; omega)
    obtain rfl := Option.some.inj H
    go_enter Tryz.func21, Tryz.ntmps21
    go_wp2
    go_ret
    exact ⟨by rfl, by repeat (exact Drawn0.refl _)⟩
end Go.Proofs.YtblejbgkcgajgaaGreat.Q
end

section
namespace Go.Proofs.YtblejbgkcgajgaaGreat.Q
open Go.RowKit Go.Proofs.YtblejbgkcgajgaaGreatW.PrintWords Go.Proofs.YtblejbgkcgajgaaGreatW.PrintLast Go.Proofs.YtblejbgkcgajgaaGreatW.PrintMore
attribute [local go_sem] max2_int min2_int max_two min_two max_three min_three max_four min_four   -- for this text's walks alone
set_option linter.unusedVariables false
set_option linter.unusedSimpArgs false
attribute [local go_sem] bin_leq bin_gtr bin_geq
def laws_markStringS.l0 : Nat → List ByteArray → Int → Int → Option (Int × List ByteArray)
  | 0, _, _, _ => none
  | k + 1, x0, x1, x5 => if x5 < (x0.length : Int) then ((laws_markText.f k x1).bind fun t652 => (if 0 ≤ x5 then (laws_markStringS.l0 k (x0.set (x5 : Int).toNat t652) (wrap64 (x1 + 1)) (wrap64 (x5 + 1))) else (none))) else (some (x1, x0))
def laws_markStringS.f (k : Nat) (l0 : List ByteArray) (a1 : Int) : Option (Int × List ByteArray) := laws_markStringS.l0 k l0 a1 0
set_option maxHeartbeats 8000000 in
set_option maxRecDepth 100000 in
theorem laws_markStringS.calls (k : Nat) (P0_ : Nat → Prop) (u9000_ : Value) (l0 : List ByteArray) (a1 : Int) (r1 : Int) (r2 : List ByteArray) (w0 w : World) (hB : Below w0.heap.size w0 w) (ho0 : Kd.R Kd.string 9 w w0.heap.size P0_ u9000_ l0) (h : laws_markStringS.f k l0 a1 = some (r1, r2)) :
    Calls Tryz.prog 25 #[u9000_, .int .i64 a1] w fun e w' => e = .returned (.int .i64 r1) ∧ Kd.R Kd.string 9 w' w0.heap.size (fun k_ => (P0_ k_ ∨ w.heap.size ≤ k_)) u9000_ r2 ∧ Below w0.heap.size w0 w' ∧ Kept w w' (fun k_ => P0_ k_) := by
  have HO0 := Aside0.mk (show Kd.R Kd.string 9 w w0.heap.size (fun k_ => (P0_ k_ ∨ w.heap.size ≤ k_)) u9000_ l0 from Kd.R_mono ho0 (fun k_ hk => (.inl hk)))
  have HK := Aside0.mk (Kept.refl w (fun k_ => P0_ k_))
  have HW0 := Aside0.mk hB.size
  have HB := Aside0.mk hB
  clear hB
  have H : (laws_markStringS.l0 k l0 a1 0) = some (r1, r2) := h
  clear h
  have H' := Aside0.mk H
  clear H
  go_enter Tryz.func25, Tryz.ntmps25
  go_wp2
  go_loopg [1, 5] k (fun kq v1 v5 w' => ∃ (x0_1 : List ByteArray) (x1_1 : Int) (x5_1 : Int), v1 = .int .i64 x1_1 ∧ v5 = .int .i64 x5_1 ∧ Aside0 (laws_markStringS.l0 kq x0_1 x1_1 x5_1 = some (r1, r2)) ∧ Aside0 (kq ≤ k) ∧ Aside0 (Kd.R Kd.string 9 w' w0.heap.size (fun k_ => (P0_ k_ ∨ w.heap.size ≤ k_)) u9000_ x0_1) ∧ Aside0 (Kept w w' (fun k_ => P0_ k_)) ∧ Aside0 (Below w0.heap.size w0 w'))
  case atStart => exact ⟨(l0), (a1), (0), vE, vE, H', ⟨Nat.le_refl _⟩, ⟨by exact HO0.out⟩, ⟨by repeat ((with_reducible exact HK.out))⟩, ⟨bW⟩⟩
  case round =>
    clear H'
    obtain ⟨x0_1, x1_1, x5_1, rfl, rfl, HA, HK1, HO_0, HK, HB⟩ := hrel
    cases gk with
    | zero => exact absurd HA.out (by simp [laws_markStringS.l0])
    | succ k1 =>
      have H := HA.out
      clear HA
      simp only [laws_markStringS.l0] at H
      by_cases c3 : x5_1 < (x0_1.length : Int)
      · rw [if_pos c3] at H
        have c3b0 : decide (x5_1 < (x0_1.length : Int)) = true := decide_eq_true c3
        clear c3
        replace H := Option.bind_eq_some_iff.mp H
        obtain ⟨t652, A40, H⟩ := H
        replace H : (if 0 ≤ x5_1 then (laws_markStringS.l0 k1 (x0_1.set (x5_1 : Int).toNat t652) (wrap64 (x1_1 + 1)) (wrap64 (x5_1 + 1))) else (none)) = some (r1, r2) := H
        have A4 := Aside0.mk A40
        clear A40
        by_cases c5 : 0 ≤ x5_1
        · rw [if_pos c5] at H
          have c5b0 : decide (0 ≤ x5_1) = true := decide_eq_true c5
          clear c5
          obtain ⟨y653, hy653⟩ : ∃ y_ : List ByteArray, y_ = (x0_1.set (x5_1 : Int).toNat t652) := ⟨_, rfl⟩
          replace H : (laws_markStringS.l0 k1 y653 (wrap64 (x1_1 + 1)) (wrap64 (x5_1 + 1))) = some (r1, r2) := by (rw [hy653]; with_reducible exact H)
          have Ny653 := Aside0.mk hy653
          clear hy653
          have H' := Aside0.mk H
          clear H
          obtain ⟨Ao7, co7, eo7⟩ := Kd.R_slice HO_0.out
          subst eo7
          go_wp2_with (first | ((with_reducible refine gate_callee (f := 38) rfl ?_); refine goesL_ (some 15) rfl rfl Tryz.func38 (by kernel_rfl) rfl #[.int .i64 x1_1] rfl gA ?_; (with_reducible refine (laws_markText.calls k1 x1_1 t652 _ A4.out).mono ?_); rintro e w8 ⟨rfl, hb⟩; refine ⟨_, rfl, ?_⟩; have n0_ := Aside0.mk (Kd.R_below (pR HO_0) hb); have n1_ := Aside0.mk (Kept.below (S := (fun k_ => P0_ k_)) (by repeat ((with_reducible exact HK.out))) hb); have n2_ := Aside0.mk (below_step (w := w0) bW hb); clear HO_0; clear HK; clear HB; have HO_0 := n0_; have HK := n1_; have HB := n2_; clear n0_ n1_ n2_; (try clear hb); have p6 : 0 ≤ (x5_1 : Int) := odt; have q6 : (x5_1 : Int) < ((x0_1.length : Int) : Int) := odt; obtain ⟨go6, co6, eo6, gb6, gl6, cl6, HG6⟩ := Kd.R_form HO_0.out (by omega); (cases eo6); have GB6 := Aside0.mk gb6; have GG6 := Aside0.mk HG6; clear gb6 gl6 HG6; have HMgo6 := Aside0.mk (show (P0_ go6 ∨ w.heap.size ≤ go6) from (HO_0.out.1 _ rfl)); obtain ⟨hx6_0, hf6_0⟩ := Kd.R_celln (⟨#[]⟩ : ByteArray) HO_0.out (x5_1 : Int) p6 q6; replace p6 := eq_true p6; replace q6 := eq_true q6; obtain ⟨hy9_, hz9_⟩ := Kd.R_celln (⟨#[]⟩ : ByteArray) HO_0.out (x5_1 : Int) (odt) (odt); have HP9 := Kd.R_putg HO_0.out (x5_1 : Int) t652) | ((with_reducible refine gate_store (t := 9) (p := 16) rfl ?_); refine store_event (t := 9) (p := 16) (v := ?vo_w10) (w1 := (w8.setCell ⟨go6, (x5_1 : Int).toNat, none⟩ (.string t652))) ?hg ?ho ?hn ?hr ?_; (case ho => rfl); (case hg => rfl); (case hn => rfl); (case hr => (go_simp; done)); intro w10 hw; have hg : w8.grownBy w10 (some go6) := (by rw [hw]; exact HP9.2); have hp_ : Kd.R Kd.string 9 w10 w0.heap.size (fun k_ => (P0_ k_ ∨ w.heap.size ≤ k_)) (.slice (some ⟨go6, 0, none⟩) x0_1.length co7) y653 := (by rw [hw, Ny653.out]; exact HP9.1); clear HP9; have n0_ := Aside0.mk (hp_); have n1_ := Aside0.mk ((by rw [hw]; exact below_set (HB.out) GB6.out : Below w0.heap.size w0 w10)); have n2_ := Aside0.mk (Kept.of_grown (S := (fun k_ => P0_ k_)) hg (by repeat ((with_reducible exact HK.out))) (fun k_ e_ => (HO_0.out.1 k_ e_))); clear HO_0; clear HB; clear HK; have HO_0 := n0_; have HB := n1_; have HK := n2_; clear n0_ n1_ n2_; clear hg hw hp_))
          go_roundg k1
          case measure => have := HK1.out; omega
          case rel => exact ⟨(y653), (wrap64 (x1_1 + 1)), (wrap64 (x5_1 + 1)), vE, vE, H', ⟨by have := HK1.out; omega⟩, ⟨by exact HO_0.out⟩, ⟨by repeat ((with_reducible exact HK.out))⟩, ⟨bW⟩⟩
        · rw [if_neg c5] at H
          exact absurd H (by simp)
      · rw [if_neg c3] at H
        have c3b0 : decide (x5_1 < (x0_1.length : Int)) = false := decide_eq_false c3
        clear c3
        simp only [Option.some.injEq, Prod.mk.injEq] at H
        obtain ⟨rfl, rfl⟩ := H
        obtain ⟨Ao11, co11, eo11⟩ := Kd.R_slice HO_0.out
        subst eo11
        go_wp2
        go_ret
        exact ⟨rE, by exact HO_0.out, by repeat ((with_reducible exact HB.out)), by repeat ((with_reducible exact HK.out))⟩
end Go.Proofs.YtblejbgkcgajgaaGreat.Q
end

section
namespace Go.Proofs.YtblejbgkcgajgaaGreat.Q
open Go.RowKit Go.Proofs.YtblejbgkcgajgaaGreatW.PrintWords Go.Proofs.YtblejbgkcgajgaaGreatW.PrintLast Go.Proofs.YtblejbgkcgajgaaGreatW.PrintMore
attribute [local go_sem] max2_int min2_int max_two min_two max_three min_three max_four min_four   -- for this text's walks alone
set_option linter.unusedVariables false
set_option linter.unusedSimpArgs false
attribute [local go_sem] bin_leq bin_gtr bin_geq
def laws_heldEntryS.l0 : Nat → List (S84) → Int → Int → Option (Int)
  | 0, _, _, _ => none
  | k + 1, x0, x1, x5 => if x5 < (x0.length : Int) then (if 0 ≤ x5 then ((laws_markText.f k x1).bind fun t655 => (if ((rd_T84 x0 x5).f0).toList = t655.toList then (if ((rd_T84 x0 x5).f1) = (wrap64 (x1 + 1)) then (laws_heldEntryS.l0 k x0 (wrap64 ((wrap64 (x1 + 1)) + 1)) (wrap64 (x5 + 1))) else (some (-1))) else (some (-1)))) else (none)) else (some x1)
def laws_heldEntryS.f (k : Nat) (l0 : List (S84)) (a1 : Int) : Option (Int) := laws_heldEntryS.l0 k l0 a1 0
def laws_heldEntryS.T4 : Bool × List (List Nat × List Nat) := (true, [([], []), ([], []), ([0, 1], [0, 1]), ([2], [2]), ([3], [3]), ([], []), ([5], [5]), ([4, 6], [4, 6])])
def laws_heldEntryS.B4 : List Nat := [0, 0, 3, 7, 15, 0, 32, 127]
theorem laws_heldEntryS.tab4 : rtab .any (opsOf Tryz.f26 4) = laws_heldEntryS.T4 := by kernel_rfl
theorem laws_heldEntryS.bits4 : waitsOk laws_heldEntryS.T4.2 laws_heldEntryS.B4 = true := by kernel_rfl
set_option maxHeartbeats 8000000 in
set_option maxRecDepth 100000 in
theorem laws_heldEntryS.calls (k : Nat) (A0 : Option Addr) (c0 : Nat) (l0 : List (S84)) (a1 : Int) (r : Int) (w : World) (hr0 : Kd.C k84 w A0 l0.length l0) (hc0 : l0.length ≤ c0) (h : laws_heldEntryS.f k l0 a1 = some r) :
    Calls Tryz.prog 26 #[.slice A0 l0.length c0, .int .i64 a1] w fun e w' => e = .returned (.int .i64 r) ∧ Below w.heap.size w w' := by
  have HR0 := Aside0.mk hr0
  have HC0 := Aside0.mk hc0
  clear hr0 hc0
  have HB := Aside0.mk (Below.refl w.heap.size w)
  have H : (laws_heldEntryS.l0 k l0 a1 0) = some r := h
  clear h
  have H' := Aside0.mk H
  clear H
  go_enter Tryz.func26, Tryz.ntmps26
  go_wp2
  go_loopg [1, 5] k (fun kq v1 v5 w' => ∃ (x1_1 : Int) (x5_1 : Int), v1 = .int .i64 x1_1 ∧ v5 = .int .i64 x5_1 ∧ Aside0 (laws_heldEntryS.l0 kq l0 x1_1 x5_1 = some r) ∧ Aside0 (kq ≤ k) ∧ Aside0 (Below w.heap.size w w'))
  case atStart => exact ⟨(a1), (0), vE, vE, H', ⟨Nat.le_refl _⟩, ⟨bW⟩⟩
  case round =>
    clear H'
    obtain ⟨x1_1, x5_1, rfl, rfl, HA, HK1, HB⟩ := hrel
    cases gk with
    | zero => exact absurd HA.out (by simp [laws_heldEntryS.l0])
    | succ k1 =>
      have H := HA.out
      clear HA
      simp only [laws_heldEntryS.l0] at H
      by_cases c3 : x5_1 < (l0.length : Int)
      · rw [if_pos c3] at H
        have c3b0 : decide (x5_1 < (l0.length : Int)) = true := decide_eq_true c3
        clear c3
        by_cases c4 : 0 ≤ x5_1
        · rw [if_pos c4] at H
          have c4b0 : decide (0 ≤ x5_1) = true := decide_eq_true c4
          clear c4
          replace H := Option.bind_eq_some_iff.mp H
          obtain ⟨t655, A50, H⟩ := H
          replace H : (if ((rd_T84 l0 x5_1).f0).toList = t655.toList then (if ((rd_T84 l0 x5_1).f1) = (wrap64 (x1_1 + 1)) then (laws_heldEntryS.l0 k1 l0 (wrap64 ((wrap64 (x1_1 + 1)) + 1)) (wrap64 (x5_1 + 1))) else (some (-1))) else (some (-1))) = some r := H
          have A5 := Aside0.mk A50
          clear A50
          by_cases c6 : ((rd_T84 l0 x5_1).f0).toList = t655.toList
          · rw [if_pos c6] at H
            have c6b0 : (((rd_T84 l0 x5_1).f0).toList == t655.toList) = true := beq_iff_eq.mpr c6
            have c6b1 : (((rd_T84 l0 x5_1).f0).toList != t655.toList) = false := bne_eq_false_iff_eq.mpr c6
            clear c6
            by_cases c7 : ((rd_T84 l0 x5_1).f1) = (wrap64 (x1_1 + 1))
            · rw [if_pos c7] at H
              have c7b0 : (((rd_T84 l0 x5_1).f1) == (wrap64 (x1_1 + 1))) = true := beq_iff_eq.mpr c7
              have c7b1 : (((rd_T84 l0 x5_1).f1) != (wrap64 (x1_1 + 1))) = false := bne_eq_false_iff_eq.mpr c7
              clear c7
              have H' := Aside0.mk H
              clear H
              try go_wp2
              have n0_ := Aside0.mk (below_drew1 HB.out)
              clear HB
              have HB := n0_
              clear n0_
              have p654 : 0 ≤ (x5_1 : Int) := odt
              have q654 : x5_1 < (l0.length : Int) := odt
              obtain ⟨ad654, e654, hx654_0, hx654_1⟩ := at_T84 HR0.out x5_1 p654 q654
              have hw654_1 := hx654_1
              have hw654_0 := hx654_0
              cases e654
              replace hx654_0 := (HB.out.cell (World.block_lt_of_cell? w _ hx654_0)).trans hx654_0
              replace hx654_1 := (HB.out.cell (World.block_lt_of_cell? w _ hx654_1)).trans hx654_1
              replace p654 := eq_true p654
              replace q654 := eq_true q654
              refine start_ (n := 8) (S := fun w' => w'.cell? (ad654.add ((x5_1).toNat * 2)) = some (.string ((rd_T84 l0 x5_1).f0)) ∧ w'.cell? ⟨(ad654.add ((x5_1).toNat * 2)).block, (ad654.add ((x5_1).toNat * 2)).off + 1, none⟩ = some (.int .i64 ((rd_T84 l0 x5_1).f1))) (ds := []) (bs 8 0) (by kernel_rfl) rfl rfl ⟨((HB.out.cell (World.block_lt_of_cell? w _ hw654_0)).trans hw654_0), ((HB.out.cell (World.block_lt_of_cell? w _ hw654_1)).trans hw654_1)⟩ (fun hHeld => ?_); refine with_tabW laws_heldEntryS.tab4 laws_heldEntryS.bits4 (fun HT_ HW_ => ?_)
              generalize wr.drew = w8 at HB hx654_0 hx654_1 hHeld ⊢
              refine pz 0 12 (bs 8 1) HT_ ?_
              refine pz 1 13 (bs 8 3) HT_ ?_
              refine pz 2 14 (bs 8 7) HT_ ?_
              refine pz 3 15 (bs 8 15) HT_ ?_
              refine pz 5 17 (bs 8 47) HT_ ?_
              refine tz 4 16 (bs 8 63) HT_ HW_ hHeld ?_
              refine one_ (i := 6) (N := some 18) (bs 8 127) rfl rfl (one_of HT_.out (by kernel_rfl)) (by decide) (fun K hK => ?_)
              refine goes_ Tryz.func38 (by kernel_rfl) rfl #[.int .i64 x1_1] (by rfl) rfl rfl gA ?_
              with_reducible refine (laws_markText.calls k1 x1_1 t655 _ A5.out).mono ?_
              rintro e w9 ⟨rfl, hb⟩
              refine ⟨_, rfl, ?_⟩
              have n0_ := Aside0.mk (below_step (w := w) bW hb)
              clear HB
              have HB := n0_
              clear n0_
              (try clear hb)
              refine hK.out _ _ ⟨((HB.out.cell (World.block_lt_of_cell? w _ hw654_0)).trans hw654_0), ((HB.out.cell (World.block_lt_of_cell? w _ hw654_1)).trans hw654_1)⟩ (fun hHeld => ?_)
              clear hK K
              refine norm_ (a' := ?_) ?_ ?_
              rotate_left
              · show Act.put _ (some 18) _ = _
                simp only [Act.put, List.setIfInBounds_toArray, List.set_cons_zero, List.set_cons_succ, i64_w, i32_w]
                rfl
              refine pz 7 19 (bs 8 255) HT_ ?_
              refine done_ (done_of HT_.out (by kernel_rfl)) ?_
              have p656 : 0 ≤ (x5_1 : Int) := odt
              have q656 : x5_1 < (l0.length : Int) := odt
              obtain ⟨ad656, e656, hx656_0, hx656_1⟩ := at_T84 HR0.out x5_1 p656 q656
              obtain rfl : ad654 = ad656 := (by injection e656)
              replace hx656_0 := (HB.out.cell (World.block_lt_of_cell? w _ hx656_0)).trans hx656_0
              replace hx656_1 := (HB.out.cell (World.block_lt_of_cell? w _ hx656_1)).trans hx656_1
              replace p656 := eq_true p656
              replace q656 := eq_true q656
              try go_wp2
              go_roundg k1
              case measure => have := HK1.out; omega
              case rel => exact ⟨(wrap64 ((wrap64 (x1_1 + 1)) + 1)), (wrap64 (x5_1 + 1)), vE, vE, H', ⟨by have := HK1.out; omega⟩, ⟨bW⟩⟩
            · rw [if_neg c7] at H
              have c7b0 : (((rd_T84 l0 x5_1).f1) == (wrap64 (x1_1 + 1))) = false := beq_eq_false_iff_ne.mpr c7
              have c7b1 : (((rd_T84 l0 x5_1).f1) != (wrap64 (x1_1 + 1))) = true := bne_iff_ne.mpr c7
              obtain rfl := Option.some.inj H
              try go_wp2
              have n0_ := Aside0.mk (below_drew1 HB.out)
              clear HB
              have HB := n0_
              clear n0_
              have p654 : 0 ≤ (x5_1 : Int) := odt
              have q654 : x5_1 < (l0.length : Int) := odt
              obtain ⟨ad654, e654, hx654_0, hx654_1⟩ := at_T84 HR0.out x5_1 p654 q654
              have hw654_1 := hx654_1
              have hw654_0 := hx654_0
              cases e654
              replace hx654_0 := (HB.out.cell (World.block_lt_of_cell? w _ hx654_0)).trans hx654_0
              replace hx654_1 := (HB.out.cell (World.block_lt_of_cell? w _ hx654_1)).trans hx654_1
              replace p654 := eq_true p654
              replace q654 := eq_true q654
              refine start_ (n := 8) (S := fun w' => w'.cell? (ad654.add ((x5_1).toNat * 2)) = some (.string ((rd_T84 l0 x5_1).f0)) ∧ w'.cell? ⟨(ad654.add ((x5_1).toNat * 2)).block, (ad654.add ((x5_1).toNat * 2)).off + 1, none⟩ = some (.int .i64 ((rd_T84 l0 x5_1).f1))) (ds := []) (bs 8 0) (by kernel_rfl) rfl rfl ⟨((HB.out.cell (World.block_lt_of_cell? w _ hw654_0)).trans hw654_0), ((HB.out.cell (World.block_lt_of_cell? w _ hw654_1)).trans hw654_1)⟩ (fun hHeld => ?_); refine with_tabW laws_heldEntryS.tab4 laws_heldEntryS.bits4 (fun HT_ HW_ => ?_)
              generalize wr.drew = w10 at HB hx654_0 hx654_1 hHeld ⊢
              refine pz 0 12 (bs 8 1) HT_ ?_
              refine pz 1 13 (bs 8 3) HT_ ?_
              refine pz 2 14 (bs 8 7) HT_ ?_
              refine pz 3 15 (bs 8 15) HT_ ?_
              refine pz 5 17 (bs 8 47) HT_ ?_
              refine tz 4 16 (bs 8 63) HT_ HW_ hHeld ?_
              refine one_ (i := 6) (N := some 18) (bs 8 127) rfl rfl (one_of HT_.out (by kernel_rfl)) (by decide) (fun K hK => ?_)
              refine goes_ Tryz.func38 (by kernel_rfl) rfl #[.int .i64 x1_1] (by rfl) rfl rfl gA ?_
              with_reducible refine (laws_markText.calls k1 x1_1 t655 _ A5.out).mono ?_
              rintro e w11 ⟨rfl, hb⟩
              refine ⟨_, rfl, ?_⟩
              have n0_ := Aside0.mk (below_step (w := w) bW hb)
              clear HB
              have HB := n0_
              clear n0_
              (try clear hb)
              refine hK.out _ _ ⟨((HB.out.cell (World.block_lt_of_cell? w _ hw654_0)).trans hw654_0), ((HB.out.cell (World.block_lt_of_cell? w _ hw654_1)).trans hw654_1)⟩ (fun hHeld => ?_)
              clear hK K
              refine norm_ (a' := ?_) ?_ ?_
              rotate_left
              · show Act.put _ (some 18) _ = _
                simp only [Act.put, List.setIfInBounds_toArray, List.set_cons_zero, List.set_cons_succ, i64_w, i32_w]
                rfl
              refine pz 7 19 (bs 8 255) HT_ ?_
              refine done_ (done_of HT_.out (by kernel_rfl)) ?_
              have p656 : 0 ≤ (x5_1 : Int) := odt
              have q656 : x5_1 < (l0.length : Int) := odt
              obtain ⟨ad656, e656, hx656_0, hx656_1⟩ := at_T84 HR0.out x5_1 p656 q656
              obtain rfl : ad654 = ad656 := (by injection e656)
              replace hx656_0 := (HB.out.cell (World.block_lt_of_cell? w _ hx656_0)).trans hx656_0
              replace hx656_1 := (HB.out.cell (World.block_lt_of_cell? w _ hx656_1)).trans hx656_1
              replace p656 := eq_true p656
              replace q656 := eq_true q656
              try go_wp2
              go_ret
              exact ⟨rE, bW⟩
          · rw [if_neg c6] at H
            have c6b0 : (((rd_T84 l0 x5_1).f0).toList == t655.toList) = false := beq_eq_false_iff_ne.mpr c6
            have c6b1 : (((rd_T84 l0 x5_1).f0).toList != t655.toList) = true := bne_iff_ne.mpr c6
            obtain rfl := Option.some.inj H
            try go_wp2
            have n0_ := Aside0.mk (below_drew1 HB.out)
            clear HB
            have HB := n0_
            clear n0_
            have p654 : 0 ≤ (x5_1 : Int) := odt
            have q654 : x5_1 < (l0.length : Int) := odt
            obtain ⟨ad654, e654, hx654_0, hx654_1⟩ := at_T84 HR0.out x5_1 p654 q654
            have hw654_1 := hx654_1
            have hw654_0 := hx654_0
            cases e654
            replace hx654_0 := (HB.out.cell (World.block_lt_of_cell? w _ hx654_0)).trans hx654_0
            replace hx654_1 := (HB.out.cell (World.block_lt_of_cell? w _ hx654_1)).trans hx654_1
            replace p654 := eq_true p654
            replace q654 := eq_true q654
            refine start_ (n := 8) (S := fun w' => w'.cell? (ad654.add ((x5_1).toNat * 2)) = some (.string ((rd_T84 l0 x5_1).f0)) ∧ w'.cell? ⟨(ad654.add ((x5_1).toNat * 2)).block, (ad654.add ((x5_1).toNat * 2)).off + 1, none⟩ = some (.int .i64 ((rd_T84 l0 x5_1).f1))) (ds := []) (bs 8 0) (by kernel_rfl) rfl rfl ⟨((HB.out.cell (World.block_lt_of_cell? w _ hw654_0)).trans hw654_0), ((HB.out.cell (World.block_lt_of_cell? w _ hw654_1)).trans hw654_1)⟩ (fun hHeld => ?_); refine with_tabW laws_heldEntryS.tab4 laws_heldEntryS.bits4 (fun HT_ HW_ => ?_)
            generalize wr.drew = w12 at HB hx654_0 hx654_1 hHeld ⊢
            refine pz 0 12 (bs 8 1) HT_ ?_
            refine pz 1 13 (bs 8 3) HT_ ?_
            refine pz 2 14 (bs 8 7) HT_ ?_
            refine pz 3 15 (bs 8 15) HT_ ?_
            refine pz 5 17 (bs 8 47) HT_ ?_
            refine tz 4 16 (bs 8 63) HT_ HW_ hHeld ?_
            refine one_ (i := 6) (N := some 18) (bs 8 127) rfl rfl (one_of HT_.out (by kernel_rfl)) (by decide) (fun K hK => ?_)
            refine goes_ Tryz.func38 (by kernel_rfl) rfl #[.int .i64 x1_1] (by rfl) rfl rfl gA ?_
            with_reducible refine (laws_markText.calls k1 x1_1 t655 _ A5.out).mono ?_
            rintro e w13 ⟨rfl, hb⟩
            refine ⟨_, rfl, ?_⟩
            have n0_ := Aside0.mk (below_step (w := w) bW hb)
            clear HB
            have HB := n0_
            clear n0_
            (try clear hb)
            refine hK.out _ _ ⟨((HB.out.cell (World.block_lt_of_cell? w _ hw654_0)).trans hw654_0), ((HB.out.cell (World.block_lt_of_cell? w _ hw654_1)).trans hw654_1)⟩ (fun hHeld => ?_)
            clear hK K
            refine norm_ (a' := ?_) ?_ ?_
            rotate_left
            · show Act.put _ (some 18) _ = _
              simp only [Act.put, List.setIfInBounds_toArray, List.set_cons_zero, List.set_cons_succ, i64_w, i32_w]
              rfl
            refine pz 7 19 (bs 8 255) HT_ ?_
            refine done_ (done_of HT_.out (by kernel_rfl)) ?_
            try go_wp2
            go_ret
            exact ⟨rE, bW⟩
        · rw [if_neg c4] at H
          exact absurd H (by simp)
      · rw [if_neg c3] at H
        have c3b0 : decide (x5_1 < (l0.length : Int)) = false := decide_eq_false c3
        clear c3
        obtain rfl := Option.some.inj H
        go_wp2
        go_ret
        exact ⟨rE, bW⟩
end Go.Proofs.YtblejbgkcgajgaaGreat.Q
end

section
namespace Go.Proofs.YtblejbgkcgajgaaGreat.Q
open Go.RowKit Go.Proofs.YtblejbgkcgajgaaGreatW.PrintWords Go.Proofs.YtblejbgkcgajgaaGreatW.PrintLast Go.Proofs.YtblejbgkcgajgaaGreatW.PrintMore
attribute [local go_sem] max2_int min2_int max_two min_two max_three min_three max_four min_four   -- for this text's walks alone
set_option linter.unusedVariables false
set_option linter.unusedSimpArgs false
attribute [local go_sem] bin_leq bin_gtr bin_geq
def laws_heldStringS.l0 : Nat → List ByteArray → Int → Int → Option (Int)
  | 0, _, _, _ => none
  | k + 1, x0, x1, x5 => if x5 < (x0.length : Int) then (if 0 ≤ x5 then ((laws_markText.f k x1).bind fun t658 => (if (rdOf ByteArray.empty x0 x5).toList = t658.toList then (laws_heldStringS.l0 k x0 (wrap64 (x1 + 1)) (wrap64 (x5 + 1))) else (some (-1)))) else (none)) else (some x1)
def laws_heldStringS.f (k : Nat) (l0 : List ByteArray) (a1 : Int) : Option (Int) := laws_heldStringS.l0 k l0 a1 0
set_option maxHeartbeats 8000000 in
set_option maxRecDepth 100000 in
theorem laws_heldStringS.calls (k : Nat) (A0 : Option Addr) (c0 : Nat) (l0 : List ByteArray) (a1 : Int) (r : Int) (w : World) (hr0 : Kd.C Kd.string w A0 l0.length l0) (hc0 : l0.length ≤ c0) (h : laws_heldStringS.f k l0 a1 = some r) :
    Calls Tryz.prog 27 #[.slice A0 l0.length c0, .int .i64 a1] w fun e w' => e = .returned (.int .i64 r) ∧ Below w.heap.size w w' := by
  have HR0 := Aside0.mk hr0
  have HC0 := Aside0.mk hc0
  clear hr0 hc0
  have HB := Aside0.mk (Below.refl w.heap.size w)
  have H : (laws_heldStringS.l0 k l0 a1 0) = some r := h
  clear h
  have H' := Aside0.mk H
  clear H
  go_enter Tryz.func27, Tryz.ntmps27
  go_wp2
  go_loopg [1, 5] k (fun kq v1 v5 w' => ∃ (x1_1 : Int) (x5_1 : Int), v1 = .int .i64 x1_1 ∧ v5 = .int .i64 x5_1 ∧ Aside0 (laws_heldStringS.l0 kq l0 x1_1 x5_1 = some r) ∧ Aside0 (kq ≤ k) ∧ Aside0 (Below w.heap.size w w'))
  case atStart => exact ⟨(a1), (0), vE, vE, H', ⟨Nat.le_refl _⟩, ⟨bW⟩⟩
  case round =>
    clear H'
    obtain ⟨x1_1, x5_1, rfl, rfl, HA, HK1, HB⟩ := hrel
    cases gk with
    | zero => exact absurd HA.out (by simp [laws_heldStringS.l0])
    | succ k1 =>
      have H := HA.out
      clear HA
      simp only [laws_heldStringS.l0] at H
      by_cases c3 : x5_1 < (l0.length : Int)
      · rw [if_pos c3] at H
        have c3b0 : decide (x5_1 < (l0.length : Int)) = true := decide_eq_true c3
        clear c3
        by_cases c4 : 0 ≤ x5_1
        · rw [if_pos c4] at H
          have c4b0 : decide (0 ≤ x5_1) = true := decide_eq_true c4
          clear c4
          replace H := Option.bind_eq_some_iff.mp H
          obtain ⟨t658, A50, H⟩ := H
          replace H : (if (rdOf ByteArray.empty l0 x5_1).toList = t658.toList then (laws_heldStringS.l0 k1 l0 (wrap64 (x1_1 + 1)) (wrap64 (x5_1 + 1))) else (some (-1))) = some r := H
          have A5 := Aside0.mk A50
          clear A50
          by_cases c6 : (rdOf ByteArray.empty l0 x5_1).toList = t658.toList
          · rw [if_pos c6] at H
            have c6b0 : ((rdOf ByteArray.empty l0 x5_1).toList == t658.toList) = true := beq_iff_eq.mpr c6
            have c6b1 : ((rdOf ByteArray.empty l0 x5_1).toList != t658.toList) = false := bne_eq_false_iff_eq.mpr c6
            clear c6
            have H' := Aside0.mk H
            clear H
            try go_wp2
            have n0_ := Aside0.mk (below_drew1 HB.out)
            clear HB
            have HB := n0_
            clear n0_
            have p657 : 0 ≤ (x5_1 : Int) := odt
            have q657 : x5_1 < (l0.length : Int) := odt
            obtain ⟨ad657, e657, hx657_0⟩ := Kd.at_string HR0.out x5_1 p657 q657
            have hw657_0 := hx657_0
            cases e657
            replace hx657_0 := (HB.out.cell (World.block_lt_of_cell? w _ hx657_0)).trans hx657_0
            replace p657 := eq_true p657
            replace q657 := eq_true q657
            refine start_ (n := 7) (S := fun w' => w'.cell? (ad657.add (x5_1).toNat) = some (.string (rdOf ByteArray.empty l0 x5_1))) (ds := []) #[false, false, false, false, false, false, false] (by kernel_rfl) rfl rfl (((HB.out.cell (World.block_lt_of_cell? w _ hw657_0)).trans hw657_0)) (fun hHeld => ?_)
            generalize wr.drew = w7 at HB hx657_0 hHeld ⊢
            refine pure_ (i := 0) (N := some 12) (v := ?_) (a' := ?_) #[true, false, false, false, false, false, false] rfl rfl (by kernel_rfl) (fun _ _ _ h => h) (Or.inl ⟨by rfl, ?_⟩) ?_ ?_; rotate_left; (focus intro w'; go_simp; with_reducible rfl); rotate_left; (focus simp only [pt, i64_w, i32_w]; rfl)
            refine pure_ (i := 1) (N := some 13) (v := ?_) (a' := ?_) #[true, true, false, false, false, false, false] rfl rfl (by kernel_rfl) (fun _ _ _ h => h) (Or.inl ⟨by rfl, ?_⟩) ?_ ?_; rotate_left; (focus intro w'; go_simp; with_reducible rfl); rotate_left; (focus simp only [pt, i64_w, i32_w]; rfl)
            refine pure_ (i := 2) (N := some 14) (v := ?_) (a' := ?_) #[true, true, true, false, false, false, false] rfl rfl (by kernel_rfl) (fun _ _ _ h => h) (Or.inl ⟨by rfl, ?_⟩) ?_ ?_; rotate_left; (focus intro w'; go_simp; with_reducible rfl); rotate_left; (focus simp only [pt, i64_w, i32_w]; rfl)
            refine pure_ (i := 4) (N := some 16) (v := ?_) (a' := ?_) #[true, true, true, false, true, false, false] rfl rfl (by kernel_rfl) (fun _ _ _ h => h) (Or.inl ⟨by rfl, ?_⟩) ?_ ?_; rotate_left; (focus intro w'; go_simp; with_reducible rfl); rotate_left; (focus simp only [pt, i64_w, i32_w]; rfl)
            refine take_ (i := 3) (N := some 15) (v := ?_) (a' := ?_) #[true, true, true, true, true, false, false] rfl rfl (by kernel_rfl) (fun _ _ _ h => h) (Or.inl ⟨by rfl, ?_⟩) hHeld ?_ ?_
            rotate_left
            · intro w' s0
              go_simp
              with_reducible rfl
            rotate_left
            · simp only [Act.put, List.setIfInBounds_toArray, List.set_cons_zero, List.set_cons_succ, i64_w, i32_w]
              rfl
            refine one_ (i := 5) (N := some 17) #[true, true, true, true, true, true, false] rfl rfl (by kernel_rfl) (by decide) (fun K hK => ?_)
            refine goes_ Tryz.func38 (by kernel_rfl) rfl #[.int .i64 x1_1] (by rfl) rfl rfl gA ?_
            with_reducible refine (laws_markText.calls k1 x1_1 t658 _ A5.out).mono ?_
            rintro e w8 ⟨rfl, hb⟩
            refine ⟨_, rfl, ?_⟩
            have n0_ := Aside0.mk (below_step (w := w) bW hb)
            clear HB
            have HB := n0_
            clear n0_
            (try clear hb)
            refine hK.out _ _ (((HB.out.cell (World.block_lt_of_cell? w _ hw657_0)).trans hw657_0)) (fun hHeld => ?_)
            clear hK K
            refine norm_ (a' := ?_) ?_ ?_
            rotate_left
            · show Act.put _ (some 17) _ = _
              simp only [Act.put, List.setIfInBounds_toArray, List.set_cons_zero, List.set_cons_succ, i64_w, i32_w]
              rfl
            refine pure_ (i := 6) (N := some 18) (v := ?_) (a' := ?_) #[true, true, true, true, true, true, true] rfl rfl (by kernel_rfl) (fun _ _ _ h => h) (Or.inl ⟨by rfl, ?_⟩) ?_ ?_; rotate_left; (focus intro w'; go_simp; with_reducible rfl); rotate_left; (focus simp only [pt, i64_w, i32_w]; rfl)
            refine done_ (by kernel_rfl) ?_
            try go_wp2
            go_roundg k1
            case measure => have := HK1.out; omega
            case rel => exact ⟨(wrap64 (x1_1 + 1)), (wrap64 (x5_1 + 1)), vE, vE, H', ⟨by have := HK1.out; omega⟩, ⟨bW⟩⟩
          · rw [if_neg c6] at H
            have c6b0 : ((rdOf ByteArray.empty l0 x5_1).toList == t658.toList) = false := beq_eq_false_iff_ne.mpr c6
            have c6b1 : ((rdOf ByteArray.empty l0 x5_1).toList != t658.toList) = true := bne_iff_ne.mpr c6
            obtain rfl := Option.some.inj H
            try go_wp2
            have n0_ := Aside0.mk (below_drew1 HB.out)
            clear HB
            have HB := n0_
            clear n0_
            have p657 : 0 ≤ (x5_1 : Int) := odt
            have q657 : x5_1 < (l0.length : Int) := odt
            obtain ⟨ad657, e657, hx657_0⟩ := Kd.at_string HR0.out x5_1 p657 q657
            have hw657_0 := hx657_0
            cases e657
            replace hx657_0 := (HB.out.cell (World.block_lt_of_cell? w _ hx657_0)).trans hx657_0
            replace p657 := eq_true p657
            replace q657 := eq_true q657
            refine start_ (n := 7) (S := fun w' => w'.cell? (ad657.add (x5_1).toNat) = some (.string (rdOf ByteArray.empty l0 x5_1))) (ds := []) #[false, false, false, false, false, false, false] (by kernel_rfl) rfl rfl (((HB.out.cell (World.block_lt_of_cell? w _ hw657_0)).trans hw657_0)) (fun hHeld => ?_)
            generalize wr.drew = w9 at HB hx657_0 hHeld ⊢
            refine pure_ (i := 0) (N := some 12) (v := ?_) (a' := ?_) #[true, false, false, false, false, false, false] rfl rfl (by kernel_rfl) (fun _ _ _ h => h) (Or.inl ⟨by rfl, ?_⟩) ?_ ?_; rotate_left; (focus intro w'; go_simp; with_reducible rfl); rotate_left; (focus simp only [pt, i64_w, i32_w]; rfl)
            refine pure_ (i := 1) (N := some 13) (v := ?_) (a' := ?_) #[true, true, false, false, false, false, false] rfl rfl (by kernel_rfl) (fun _ _ _ h => h) (Or.inl ⟨by rfl, ?_⟩) ?_ ?_; rotate_left; (focus intro w'; go_simp; with_reducible rfl); rotate_left; (focus simp only [pt, i64_w, i32_w]; rfl)
            refine pure_ (i := 2) (N := some 14) (v := ?_) (a' := ?_) #[true, true, true, false, false, false, false] rfl rfl (by kernel_rfl) (fun _ _ _ h => h) (Or.inl ⟨by rfl, ?_⟩) ?_ ?_; rotate_left; (focus intro w'; go_simp; with_reducible rfl); rotate_left; (focus simp only [pt, i64_w, i32_w]; rfl)
            refine pure_ (i := 4) (N := some 16) (v := ?_) (a' := ?_) #[true, true, true, false, true, false, false] rfl rfl (by kernel_rfl) (fun _ _ _ h => h) (Or.inl ⟨by rfl, ?_⟩) ?_ ?_; rotate_left; (focus intro w'; go_simp; with_reducible rfl); rotate_left; (focus simp only [pt, i64_w, i32_w]; rfl)
            refine take_ (i := 3) (N := some 15) (v := ?_) (a' := ?_) #[true, true, true, true, true, false, false] rfl rfl (by kernel_rfl) (fun _ _ _ h => h) (Or.inl ⟨by rfl, ?_⟩) hHeld ?_ ?_
            rotate_left
            · intro w' s0
              go_simp
              with_reducible rfl
            rotate_left
            · simp only [Act.put, List.setIfInBounds_toArray, List.set_cons_zero, List.set_cons_succ, i64_w, i32_w]
              rfl
            refine one_ (i := 5) (N := some 17) #[true, true, true, true, true, true, false] rfl rfl (by kernel_rfl) (by decide) (fun K hK => ?_)
            refine goes_ Tryz.func38 (by kernel_rfl) rfl #[.int .i64 x1_1] (by rfl) rfl rfl gA ?_
            with_reducible refine (laws_markText.calls k1 x1_1 t658 _ A5.out).mono ?_
            rintro e w10 ⟨rfl, hb⟩
            refine ⟨_, rfl, ?_⟩
            have n0_ := Aside0.mk (below_step (w := w) bW hb)
            clear HB
            have HB := n0_
            clear n0_
            (try clear hb)
            refine hK.out _ _ (((HB.out.cell (World.block_lt_of_cell? w _ hw657_0)).trans hw657_0)) (fun hHeld => ?_)
            clear hK K
            refine norm_ (a' := ?_) ?_ ?_
            rotate_left
            · show Act.put _ (some 17) _ = _
              simp only [Act.put, List.setIfInBounds_toArray, List.set_cons_zero, List.set_cons_succ, i64_w, i32_w]
              rfl
            refine pure_ (i := 6) (N := some 18) (v := ?_) (a' := ?_) #[true, true, true, true, true, true, true] rfl rfl (by kernel_rfl) (fun _ _ _ h => h) (Or.inl ⟨by rfl, ?_⟩) ?_ ?_; rotate_left; (focus intro w'; go_simp; with_reducible rfl); rotate_left; (focus simp only [pt, i64_w, i32_w]; rfl)
            refine done_ (by kernel_rfl) ?_
            try go_wp2
            go_ret
            exact ⟨rE, bW⟩
        · rw [if_neg c4] at H
          exact absurd H (by simp)
      · rw [if_neg c3] at H
        have c3b0 : decide (x5_1 < (l0.length : Int)) = false := decide_eq_false c3
        clear c3
        obtain rfl := Option.some.inj H
        go_wp2
        go_ret
        exact ⟨rE, bW⟩
end Go.Proofs.YtblejbgkcgajgaaGreat.Q
end

section
namespace Go.Proofs.YtblejbgkcgajgaaGreat.Q
open Go.RowKit Go.Proofs.YtblejbgkcgajgaaGreatW.PrintWords Go.Proofs.YtblejbgkcgajgaaGreatW.PrintLast Go.Proofs.YtblejbgkcgajgaaGreatW.PrintMore
attribute [local go_sem] max2_int min2_int max_two min_two max_three min_three max_four min_four   -- for this text's walks alone
set_option linter.unusedVariables false
set_option linter.unusedSimpArgs false
attribute [local go_sem] bin_leq bin_gtr bin_geq
mutual
def laws_FnExactMergeCommits.j0 : Nat → List (S75) → Int → Int → List (S84) → List ByteArray → Int → List (S64) → List (S84) → List ByteArray → Int → Bool → Option (Bool)
  | 0, _, _, _, _, _, _, _, _, _, _, _ => none
  | k + 1, x0, x1, x2, x8, x9, x10, x11, x12, x13, x14, x59 => if x59 = true then (some false) else ((laws_toCommitS.f k x0).bind fun t682 => ((laws_eqCommitS.f k x11 t682).bind fun t685 => (if t685 = true then ((laws_markCommitS.f k x11 1).bind fun t686 => (if t686 < 0 then (laws_FnExactMergeCommits.j1 k x0 x1 x2 x8 x9 x10 x12 x13 true) else ((laws_eqEntryS.f k x12 x8).bind fun t687 => (if t687 = true then ((laws_eqStringS.f k x13 x9).bind fun t688 => (if t688 = true then (laws_FnExactMergeCommits.j1 k x0 x1 x2 x8 x9 x10 x12 x13 (x14 != x10)) else (laws_FnExactMergeCommits.j1 k x0 x1 x2 x8 x9 x10 x12 x13 true))) else (laws_FnExactMergeCommits.j1 k x0 x1 x2 x8 x9 x10 x12 x13 true))))) else (some false))))
def laws_FnExactMergeCommits.j1 : Nat → List (S75) → Int → Int → List (S84) → List ByteArray → Int → List (S84) → List ByteArray → Bool → Option (Bool)
  | 0, _, _, _, _, _, _, _, _, _ => none
  | k + 1, x0, x1, x2, x8, x9, x10, x12, x13, x86 => if x86 = true then (some false) else ((laws_markEntryS.f k x12 1).bind fun bt689 => ((laws_markStringS.f k x13 bt689.1).bind fun bt691 => ((laws_heldEntryS.f k bt689.2 1).bind fun t693 => (if t693 < 0 then (some false) else ((laws_heldStringS.f k bt691.2 t693).bind fun t694 => (if t694 < 0 then (some false) else (if t694 = bt691.1 then ((laws_toCommitS.f k x0).bind fun t695 => ((impl_MergeCommits.f k t695 x1 x2).bind fun bt698 => ((laws_eqEntryS.f k bt698.1 x8).bind fun t705 => (if t705 = true then ((laws_eqStringS.f k bt698.2.1 x9).bind fun t706 => (if t706 = true then (laws_FnExactMergeCommits.j2 k bt689.2 bt691.2 bt691.1 (bt698.2.2 != x10)) else (laws_FnExactMergeCommits.j2 k bt689.2 bt691.2 bt691.1 true))) else (laws_FnExactMergeCommits.j2 k bt689.2 bt691.2 bt691.1 true))))) else (some false))))))))
def laws_FnExactMergeCommits.j2 : Nat → List (S84) → List ByteArray → Int → Bool → Option (Bool)
  | 0, _, _, _, _ => none
  | k + 1, x12, x13, x16, x129 => if x129 = true then (some false) else ((laws_heldEntryS.f k x12 1).bind fun t707 => (if t707 < 0 then (some false) else ((laws_heldStringS.f k x13 t707).bind fun t708 => (if t708 < 0 then (some false) else (if t708 = x16 then (some true) else (some false))))))
end
def laws_FnExactMergeCommits.f (k : Nat) (l0 : List (S75)) (a1 : Int) (a2 : Int) : Option (Bool) := (laws_szCommitS.f k l0 1048576).bind fun t659 => (if t659 < 0 then (some true) else ((laws_toCommitS.f k l0).bind fun t660 => ((spec_MergeCommits.f k t660 a1 a2).bind fun bt663 => ((laws_toCommitS.f k l0).bind fun t670 => ((impl_MergeCommits.f k t670 a1 a2).bind fun bt673 => ((laws_eqEntryS.f k bt673.1 bt663.1).bind fun t680 => (if t680 = true then ((laws_eqStringS.f k bt673.2.1 bt663.2.1).bind fun t681 => (if t681 = true then (laws_FnExactMergeCommits.j0 k l0 a1 a2 bt663.1 bt663.2.1 bt663.2.2 t670 bt673.1 bt673.2.1 bt673.2.2 (bt673.2.2 != bt663.2.2)) else (laws_FnExactMergeCommits.j0 k l0 a1 a2 bt663.1 bt663.2.1 bt663.2.2 t670 bt673.1 bt673.2.1 bt673.2.2 true))) else (laws_FnExactMergeCommits.j0 k l0 a1 a2 bt663.1 bt663.2.1 bt663.2.2 t670 bt673.1 bt673.2.1 bt673.2.2 true))))))))
set_option maxHeartbeats 8000000 in
set_option maxRecDepth 100000 in
theorem laws_FnExactMergeCommits.calls (k : Nat) (A0 : Option Addr) (c0 : Nat) (l0 : List (S75)) (a1 : Int) (a2 : Int) (w : World) (hr0 : Kd.C k75 w A0 l0.length l0) (hc0 : l0.length ≤ c0) (h : laws_FnExactMergeCommits.f k l0 a1 a2 = some true) :
    Calls Tryz.prog 4 #[.slice A0 l0.length c0, .int .i64 a1, .int .i64 a2] w fun e w' => e = .returned (.bool true) ∧ Below w.heap.size w w' := by
  have HR0 := Aside0.mk hr0
  have HC0 := Aside0.mk hc0
  clear hr0 hc0
  have HB := Aside0.mk (Below.refl w.heap.size w)
  have H : ((laws_szCommitS.f k l0 1048576).bind fun t659 => (if t659 < 0 then (some true) else ((laws_toCommitS.f k l0).bind fun t660 => ((spec_MergeCommits.f k t660 a1 a2).bind fun bt663 => ((laws_toCommitS.f k l0).bind fun t670 => ((impl_MergeCommits.f k t670 a1 a2).bind fun bt673 => ((laws_eqEntryS.f k bt673.1 bt663.1).bind fun t680 => (if t680 = true then ((laws_eqStringS.f k bt673.2.1 bt663.2.1).bind fun t681 => (if t681 = true then (laws_FnExactMergeCommits.j0 k l0 a1 a2 bt663.1 bt663.2.1 bt663.2.2 t670 bt673.1 bt673.2.1 bt673.2.2 (bt673.2.2 != bt663.2.2)) else (laws_FnExactMergeCommits.j0 k l0 a1 a2 bt663.1 bt663.2.1 bt663.2.2 t670 bt673.1 bt673.2.1 bt673.2.2 true))) else (laws_FnExactMergeCommits.j0 k l0 a1 a2 bt663.1 bt663.2.1 bt663.2.2 t670 bt673.1 bt673.2.1 bt673.2.2 true))))))))) = some true := h
  clear h
  replace H := Option.bind_eq_some_iff.mp H
  obtain ⟨t659, A40, H⟩ := H
  replace H : (if t659 < 0 then (some true) else ((laws_toCommitS.f k l0).bind fun t660 => ((spec_MergeCommits.f k t660 a1 a2).bind fun bt663 => ((laws_toCommitS.f k l0).bind fun t670 => ((impl_MergeCommits.f k t670 a1 a2).bind fun bt673 => ((laws_eqEntryS.f k bt673.1 bt663.1).bind fun t680 => (if t680 = true then ((laws_eqStringS.f k bt673.2.1 bt663.2.1).bind fun t681 => (if t681 = true then (laws_FnExactMergeCommits.j0 k l0 a1 a2 bt663.1 bt663.2.1 bt663.2.2 t670 bt673.1 bt673.2.1 bt673.2.2 (bt673.2.2 != bt663.2.2)) else (laws_FnExactMergeCommits.j0 k l0 a1 a2 bt663.1 bt663.2.1 bt663.2.2 t670 bt673.1 bt673.2.1 bt673.2.2 true))) else (laws_FnExactMergeCommits.j0 k l0 a1 a2 bt663.1 bt663.2.1 bt663.2.2 t670 bt673.1 bt673.2.1 bt673.2.2 true)))))))) = some true := H
  have A4 := Aside0.mk A40
  clear A40
  by_cases c5 : t659 < 0
  · rw [if_pos c5] at H
    have c5b0 : decide (t659 < 0) = true := decide_eq_true c5
    clear c5
    clear H
    go_enter Tryz.func4, Tryz.ntmps4
    go_wp2_with (((with_reducible refine gate_callee (f := 16) rfl ?_); refine goesL_ (some 23) rfl rfl Tryz.func16 (by kernel_rfl) rfl #[.slice A0 l0.length c0, .int .i64 1048576] rfl gA ?_; (with_reducible refine (laws_szCommitS.calls k _ _ l0 1048576 t659 _ ?side1 ?side2 A4.out).mono ?_); (case side1 => exact cN HR0); (case side2 => exact HC0.out); rintro e w6 ⟨rfl, hb⟩; refine ⟨_, rfl, ?_⟩; have n0_ := Aside0.mk (below_step (w := w) bW hb); clear HB; have HB := n0_; clear n0_; (try clear hb)))
    go_ret
    exact ⟨rE, bW⟩
  · rw [if_neg c5] at H
    have c5b0 : decide (t659 < 0) = false := decide_eq_false c5
    clear c5
    replace H := Option.bind_eq_some_iff.mp H
    obtain ⟨t660, A70, H⟩ := H
    replace H : ((spec_MergeCommits.f k t660 a1 a2).bind fun bt663 => ((laws_toCommitS.f k l0).bind fun t670 => ((impl_MergeCommits.f k t670 a1 a2).bind fun bt673 => ((laws_eqEntryS.f k bt673.1 bt663.1).bind fun t680 => (if t680 = true then ((laws_eqStringS.f k bt673.2.1 bt663.2.1).bind fun t681 => (if t681 = true then (laws_FnExactMergeCommits.j0 k l0 a1 a2 bt663.1 bt663.2.1 bt663.2.2 t670 bt673.1 bt673.2.1 bt673.2.2 (bt673.2.2 != bt663.2.2)) else (laws_FnExactMergeCommits.j0 k l0 a1 a2 bt663.1 bt663.2.1 bt663.2.2 t670 bt673.1 bt673.2.1 bt673.2.2 true))) else (laws_FnExactMergeCommits.j0 k l0 a1 a2 bt663.1 bt663.2.1 bt663.2.2 t670 bt673.1 bt673.2.1 bt673.2.2 true)))))) = some true := H
    have A7 := Aside0.mk A70
    clear A70
    replace H := Option.bind_eq_some_iff.mp H
    obtain ⟨⟨t663, t664, t665⟩, A80, H⟩ := H
    replace H : ((laws_toCommitS.f k l0).bind fun t670 => ((impl_MergeCommits.f k t670 a1 a2).bind fun bt673 => ((laws_eqEntryS.f k bt673.1 t663).bind fun t680 => (if t680 = true then ((laws_eqStringS.f k bt673.2.1 t664).bind fun t681 => (if t681 = true then (laws_FnExactMergeCommits.j0 k l0 a1 a2 t663 t664 t665 t670 bt673.1 bt673.2.1 bt673.2.2 (bt673.2.2 != t665)) else (laws_FnExactMergeCommits.j0 k l0 a1 a2 t663 t664 t665 t670 bt673.1 bt673.2.1 bt673.2.2 true))) else (laws_FnExactMergeCommits.j0 k l0 a1 a2 t663 t664 t665 t670 bt673.1 bt673.2.1 bt673.2.2 true))))) = some true := H
    have A8 := Aside0.mk A80
    clear A80
    replace H := Option.bind_eq_some_iff.mp H
    obtain ⟨t670, A90, H⟩ := H
    replace H : ((impl_MergeCommits.f k t670 a1 a2).bind fun bt673 => ((laws_eqEntryS.f k bt673.1 t663).bind fun t680 => (if t680 = true then ((laws_eqStringS.f k bt673.2.1 t664).bind fun t681 => (if t681 = true then (laws_FnExactMergeCommits.j0 k l0 a1 a2 t663 t664 t665 t670 bt673.1 bt673.2.1 bt673.2.2 (bt673.2.2 != t665)) else (laws_FnExactMergeCommits.j0 k l0 a1 a2 t663 t664 t665 t670 bt673.1 bt673.2.1 bt673.2.2 true))) else (laws_FnExactMergeCommits.j0 k l0 a1 a2 t663 t664 t665 t670 bt673.1 bt673.2.1 bt673.2.2 true)))) = some true := H
    have A9 := Aside0.mk A90
    clear A90
    replace H := Option.bind_eq_some_iff.mp H
    obtain ⟨⟨t673, t674, t675⟩, A100, H⟩ := H
    replace H : ((laws_eqEntryS.f k t673 t663).bind fun t680 => (if t680 = true then ((laws_eqStringS.f k t674 t664).bind fun t681 => (if t681 = true then (laws_FnExactMergeCommits.j0 k l0 a1 a2 t663 t664 t665 t670 t673 t674 t675 (t675 != t665)) else (laws_FnExactMergeCommits.j0 k l0 a1 a2 t663 t664 t665 t670 t673 t674 t675 true))) else (laws_FnExactMergeCommits.j0 k l0 a1 a2 t663 t664 t665 t670 t673 t674 t675 true))) = some true := H
    have A10 := Aside0.mk A100
    clear A100
    have HC11 := Aside0.mk H
    clear H
    go_enter Tryz.func4, Tryz.ntmps4
    go_upto_region 8 with (first | ((with_reducible refine gate_callee (f := 16) rfl ?_); refine goesL_ (some 23) rfl rfl Tryz.func16 (by kernel_rfl) rfl #[.slice A0 l0.length c0, .int .i64 1048576] rfl gA ?_; (with_reducible refine (laws_szCommitS.calls k _ _ l0 1048576 t659 _ ?side1 ?side2 A4.out).mono ?_); (case side1 => exact cN HR0); (case side2 => exact HC0.out); rintro e w12 ⟨rfl, hb⟩; refine ⟨_, rfl, ?_⟩; have n0_ := Aside0.mk (below_step (w := w) bW hb); clear HB; have HB := n0_; clear n0_; (try clear hb)) | ((with_reducible refine gate_callee (f := 18) rfl ?_); refine goesL_ (some 28) rfl rfl Tryz.func18 (by kernel_rfl) rfl #[.slice A0 l0.length c0] rfl gA ?_; (with_reducible refine (laws_toCommitS.calls k _ _ l0 t660 _ ?side1 ?side2 A7.out).mono ?_); (case side1 => exact cB HR0); (case side2 => exact HC0.out); rintro e w13 ⟨v661, rfl, ho0, hb⟩; refine ⟨_, rfl, ?_⟩; have n0_ := Aside0.mk (Kd.S_lower ho0 (below_size (w := w) bW)); have n1_ := Aside0.mk (below_step (w := w) bW hb); clear HB; have HO662 := n0_; have HB := n1_; clear n0_ n1_; (try clear hb); (try clear ho0); obtain ⟨Ao14, co14, eo14⟩ := Kd.S_slice HO662.out; subst eo14) | ((with_reducible refine gate_callee (f := 17) rfl ?_); refine goesL_ (some 31) rfl rfl Tryz.func17 (by kernel_rfl) rfl #[.slice Ao14 t660.length co14, .int .i64 a1, .int .i64 a2] rfl gA ?_; (with_reducible refine (spec_MergeCommits.calls k _ _ t660 a1 a2 t663 t664 t665 _ ?side1 ?side2 A8.out).mono ?_); (case side1 => repeat (exact (Kd.S_reads' HO662.out).2.2)); (case side2 => exact (Kd.S_reads' HO662.out).2.1); rintro e w15 ⟨v666, v668, rfl, ho0, ho1, hb⟩; refine ⟨_, rfl, ?_⟩; have n0_ := Aside0.mk (Kd.S_elder' (pS HO662) (Kd.R_base ho0) hb); have n1_ := Aside0.mk (Kd.R_lower ho0 (below_size (w := w) bW)); have n2_ := Aside0.mk (Kd.R_lower ho1 (below_size (w := w) bW)); have n3_ := Aside0.mk (below_step (w := w) bW hb); clear HO662; clear HB; have HO662 := n0_; have HO667 := n1_; have HO669 := n2_; have HB := n3_; clear n0_ n1_ n2_ n3_; (try clear hb); (try clear ho0); (try clear ho1)) | ((with_reducible refine gate_callee (f := 18) rfl ?_); refine goesL_ (some 36) rfl rfl Tryz.func18 (by kernel_rfl) rfl #[.slice A0 l0.length c0] rfl gA ?_; (with_reducible refine (laws_toCommitS.calls k _ _ l0 t670 _ ?side1 ?side2 A9.out).mono ?_); (case side1 => exact cB HR0); (case side2 => exact HC0.out); rintro e w16 ⟨v671, rfl, ho0, hb⟩; refine ⟨_, rfl, ?_⟩; have n0_ := Aside0.mk (Kd.S_elder' (pS HO662) (Kd.S_base ho0) hb); have n1_ := Aside0.mk (Kd.R_below (pR HO667) hb); have n2_ := Aside0.mk (Kd.R_below (pR HO669) hb); have n3_ := Aside0.mk (Kd.S_lower (Kd.S_new' (Kd.S_new' ho0 (Kd.S_lt (pS HO662))) (Kd.R_lt (pR HO667))) (below_size (w := w) bW)); have n4_ := Aside0.mk (below_step (w := w) bW hb); clear HO662; clear HO667; clear HO669; clear HB; have HO662 := n0_; have HO667 := n1_; have HO669 := n2_; have HO672 := n3_; have HB := n4_; clear n0_ n1_ n2_ n3_ n4_; (try clear hb); (try clear ho0); obtain ⟨Ao17, co17, eo17⟩ := Kd.S_slice HO672.out; subst eo17) | ((with_reducible refine gate_callee (f := 19) rfl ?_); refine goesL_ (some 41) rfl rfl Tryz.func19 (by kernel_rfl) rfl #[.slice Ao17 t670.length co17, .int .i64 a1, .int .i64 a2] rfl gA ?_; (with_reducible refine (impl_MergeCommits.calls k _ _ t670 a1 a2 t673 t674 t675 _ ?side1 ?side2 A10.out).mono ?_); (case side1 => repeat (exact (Kd.S_reads' HO672.out).2.2)); (case side2 => exact (Kd.S_reads' HO672.out).2.1); rintro e w18 ⟨v676, v678, rfl, ho0, ho1, hb⟩; refine ⟨_, rfl, ?_⟩; have n0_ := Aside0.mk (Kd.S_elder' (pS HO662) (Kd.R_base ho0) hb); have n1_ := Aside0.mk (Kd.R_elder' (pR HO667) (Kd.R_base ho0) hb); have n2_ := Aside0.mk (Kd.R_elder' (pR HO669) (Kd.R_base ho1) hb); have n3_ := Aside0.mk (Kd.S_elder' (pS HO672) (Kd.R_base ho0) hb); have n4_ := Aside0.mk (Kd.R_lower (Kd.R_new' ho0 (Kd.R_lt (pR HO667))) (below_size (w := w) bW)); have n5_ := Aside0.mk (Kd.R_lower (Kd.R_new' ho1 (Kd.R_lt (pR HO669))) (below_size (w := w) bW)); have n6_ := Aside0.mk (below_step (w := w) bW hb); clear HO662; clear HO667; clear HO669; clear HO672; clear HB; have HO662 := n0_; have HO667 := n1_; have HO669 := n2_; have HO672 := n3_; have HO677 := n4_; have HO679 := n5_; have HB := n6_; clear n0_ n1_ n2_ n3_ n4_ n5_ n6_; (try clear hb); (try clear ho0); (try clear ho1)))
    go_cut [59] (fun v59 wc => ∃ (kq : Nat) (x59_10 : Bool), v59 = .bool x59_10 ∧ Aside0 (laws_FnExactMergeCommits.j0 kq l0 a1 a2 t663 t664 t665 t670 t673 t674 t675 x59_10 = some true) ∧ Aside0 (kq ≤ k) ∧ Aside0 (Kd.R k84 84 wc w.heap.size (fun k_ => some k_ ≠ (v676 : Value).ownBlock) v666 t663) ∧ Aside0 (Kd.R Kd.string 9 wc w.heap.size (fun k_ => some k_ ≠ (v678 : Value).ownBlock) v668 t664) ∧ Aside0 (Kd.S k64 64 wc w.heap.size (fun k_ => some k_ ≠ (v666 : Value).ownBlock ∧ some k_ ≠ (v676 : Value).ownBlock) (.slice Ao17 t670.length co17) t670) ∧ Aside0 (Kd.R k84 84 wc w.heap.size (fun k_ => some k_ ≠ (v666 : Value).ownBlock) v676 t673) ∧ Aside0 (Kd.R Kd.string 9 wc w.heap.size (fun k_ => some k_ ≠ (v668 : Value).ownBlock) v678 t674) ∧ Aside0 (Below w.heap.size w wc))
    case first =>
      have H := HC11.out
      clear HC11
      replace H := Option.bind_eq_some_iff.mp H
      obtain ⟨t680, A190, H⟩ := H
      replace H : (if t680 = true then ((laws_eqStringS.f k t674 t664).bind fun t681 => (if t681 = true then (laws_FnExactMergeCommits.j0 k l0 a1 a2 t663 t664 t665 t670 t673 t674 t675 (t675 != t665)) else (laws_FnExactMergeCommits.j0 k l0 a1 a2 t663 t664 t665 t670 t673 t674 t675 true))) else (laws_FnExactMergeCommits.j0 k l0 a1 a2 t663 t664 t665 t670 t673 t674 t675 true)) = some true := H
      have A19 := Aside0.mk A190
      clear A190
      by_cases c20 : t680 = true
      · subst c20
        have H1 : ((laws_eqStringS.f k t674 t664).bind fun t681 => (if t681 = true then (laws_FnExactMergeCommits.j0 k l0 a1 a2 t663 t664 t665 t670 t673 t674 t675 (t675 != t665)) else (laws_FnExactMergeCommits.j0 k l0 a1 a2 t663 t664 t665 t670 t673 t674 t675 true))) = some true := by rw [if_pos rfl] at H; exact H
        clear H
        have H := H1
        clear H1
        replace H := Option.bind_eq_some_iff.mp H
        obtain ⟨t681, A210, H⟩ := H
        replace H : (if t681 = true then (laws_FnExactMergeCommits.j0 k l0 a1 a2 t663 t664 t665 t670 t673 t674 t675 (t675 != t665)) else (laws_FnExactMergeCommits.j0 k l0 a1 a2 t663 t664 t665 t670 t673 t674 t675 true)) = some true := H
        have A21 := Aside0.mk A210
        clear A210
        by_cases c22 : t681 = true
        · subst c22
          have H1 : (laws_FnExactMergeCommits.j0 k l0 a1 a2 t663 t664 t665 t670 t673 t674 t675 (t675 != t665)) = some true := by rw [if_pos rfl] at H; exact H
          clear H
          have H := H1
          clear H1
          have H' := Aside0.mk H
          clear H
          obtain ⟨Ao23, co23, eo23⟩ := Kd.R_slice HO677.out
          subst eo23
          obtain ⟨Ao24, co24, eo24⟩ := Kd.R_slice HO667.out
          subst eo24
          go_wp2_with (first | ((with_reducible refine gate_callee (f := 20) rfl ?_); refine goesL_ (some 47) rfl rfl Tryz.func20 (by kernel_rfl) rfl #[.slice Ao23 t673.length co23, .slice Ao24 t663.length co24] rfl gA ?_; (with_reducible refine (laws_eqEntryS.calls k _ _ t673 _ _ t663 true _ ?side1 ?side2 ?side3 ?side4 A19.out).mono ?_); (case side1 => repeat (exact (Kd.R_reads' HO677.out).2.2)); (case side2 => exact (Kd.R_reads' HO677.out).2.1); (case side3 => repeat (exact (Kd.R_reads' HO667.out).2.2)); (case side4 => exact (Kd.R_reads' HO667.out).2.1); rintro e w25 ⟨rfl, hb⟩; refine ⟨_, rfl, ?_⟩; have n0_ := Aside0.mk (Kd.S_below (pS HO662) hb); have n1_ := Aside0.mk (Kd.R_below (pR HO667) hb); have n2_ := Aside0.mk (Kd.R_below (pR HO669) hb); have n3_ := Aside0.mk (Kd.S_below (pS HO672) hb); have n4_ := Aside0.mk (Kd.R_below (pR HO677) hb); have n5_ := Aside0.mk (Kd.R_below (pR HO679) hb); have n6_ := Aside0.mk (below_step (w := w) bW hb); clear HO662; clear HO667; clear HO669; clear HO672; clear HO677; clear HO679; clear HB; have HO662 := n0_; have HO667 := n1_; have HO669 := n2_; have HO672 := n3_; have HO677 := n4_; have HO679 := n5_; have HB := n6_; clear n0_ n1_ n2_ n3_ n4_ n5_ n6_; (try clear hb); obtain ⟨Ao26, co26, eo26⟩ := Kd.R_slice HO679.out; subst eo26; obtain ⟨Ao27, co27, eo27⟩ := Kd.R_slice HO669.out; subst eo27) | (go_at_call 21; (with_reducible refine (laws_eqStringS.calls k _ _ t674 _ _ t664 true _ ?side1 ?side2 ?side3 ?side4 A21.out).mono ?_); (case side1 => repeat (exact (Kd.R_reads' HO679.out).2.2)); (case side2 => exact (Kd.R_reads' HO679.out).2.1); (case side3 => repeat (exact (Kd.R_reads' HO669.out).2.2)); (case side4 => exact (Kd.R_reads' HO669.out).2.1); rintro e w' ⟨rfl, ⟨nd, rfl⟩⟩))
          go_meet
          case rel => exact ⟨_, ((t675 != t665)), vE, H', ⟨by omega⟩, ⟨by (with_reducible repeat (apply Kd.R_drewN)); exact Kd.R_mono HO667.out (fun _ hk => hk.2)⟩, ⟨by (with_reducible repeat (apply Kd.R_drewN)); exact Kd.R_mono HO669.out (fun _ hk => hk.2)⟩, ⟨by (with_reducible repeat (apply Kd.S_drewN)); exact Kd.S_mono HO672.out (fun _ hk => ⟨hk.1.2, hk.2⟩)⟩, ⟨by (with_reducible repeat (apply Kd.R_drewN)); exact Kd.R_mono HO677.out (fun _ hk => hk.2)⟩, ⟨by (with_reducible repeat (apply Kd.R_drewN)); exact Kd.R_mono HO679.out (fun _ hk => hk.2)⟩, ⟨bW⟩⟩
        · replace c22 := Bool.eq_false_iff.mpr c22
          subst c22
          have H1 : (laws_FnExactMergeCommits.j0 k l0 a1 a2 t663 t664 t665 t670 t673 t674 t675 true) = some true := by rw [if_neg (show ¬ (false = true) by decide)] at H; exact H
          clear H
          have H := H1
          clear H1
          have H' := Aside0.mk H
          clear H
          obtain ⟨Ao28, co28, eo28⟩ := Kd.R_slice HO677.out
          subst eo28
          obtain ⟨Ao29, co29, eo29⟩ := Kd.R_slice HO667.out
          subst eo29
          go_wp2_with (first | ((with_reducible refine gate_callee (f := 20) rfl ?_); refine goesL_ (some 47) rfl rfl Tryz.func20 (by kernel_rfl) rfl #[.slice Ao28 t673.length co28, .slice Ao29 t663.length co29] rfl gA ?_; (with_reducible refine (laws_eqEntryS.calls k _ _ t673 _ _ t663 true _ ?side1 ?side2 ?side3 ?side4 A19.out).mono ?_); (case side1 => repeat (exact (Kd.R_reads' HO677.out).2.2)); (case side2 => exact (Kd.R_reads' HO677.out).2.1); (case side3 => repeat (exact (Kd.R_reads' HO667.out).2.2)); (case side4 => exact (Kd.R_reads' HO667.out).2.1); rintro e w30 ⟨rfl, hb⟩; refine ⟨_, rfl, ?_⟩; have n0_ := Aside0.mk (Kd.S_below (pS HO662) hb); have n1_ := Aside0.mk (Kd.R_below (pR HO667) hb); have n2_ := Aside0.mk (Kd.R_below (pR HO669) hb); have n3_ := Aside0.mk (Kd.S_below (pS HO672) hb); have n4_ := Aside0.mk (Kd.R_below (pR HO677) hb); have n5_ := Aside0.mk (Kd.R_below (pR HO679) hb); have n6_ := Aside0.mk (below_step (w := w) bW hb); clear HO662; clear HO667; clear HO669; clear HO672; clear HO677; clear HO679; clear HB; have HO662 := n0_; have HO667 := n1_; have HO669 := n2_; have HO672 := n3_; have HO677 := n4_; have HO679 := n5_; have HB := n6_; clear n0_ n1_ n2_ n3_ n4_ n5_ n6_; (try clear hb); obtain ⟨Ao31, co31, eo31⟩ := Kd.R_slice HO679.out; subst eo31; obtain ⟨Ao32, co32, eo32⟩ := Kd.R_slice HO669.out; subst eo32) | (go_at_call 21; (with_reducible refine (laws_eqStringS.calls k _ _ t674 _ _ t664 false _ ?side1 ?side2 ?side3 ?side4 A21.out).mono ?_); (case side1 => repeat (exact (Kd.R_reads' HO679.out).2.2)); (case side2 => exact (Kd.R_reads' HO679.out).2.1); (case side3 => repeat (exact (Kd.R_reads' HO669.out).2.2)); (case side4 => exact (Kd.R_reads' HO669.out).2.1); rintro e w' ⟨rfl, ⟨nd, rfl⟩⟩))
          go_meet
          case rel => exact ⟨_, (true), vE, H', ⟨by omega⟩, ⟨by (with_reducible repeat (apply Kd.R_drewN)); exact Kd.R_mono HO667.out (fun _ hk => hk.2)⟩, ⟨by (with_reducible repeat (apply Kd.R_drewN)); exact Kd.R_mono HO669.out (fun _ hk => hk.2)⟩, ⟨by (with_reducible repeat (apply Kd.S_drewN)); exact Kd.S_mono HO672.out (fun _ hk => ⟨hk.1.2, hk.2⟩)⟩, ⟨by (with_reducible repeat (apply Kd.R_drewN)); exact Kd.R_mono HO677.out (fun _ hk => hk.2)⟩, ⟨by (with_reducible repeat (apply Kd.R_drewN)); exact Kd.R_mono HO679.out (fun _ hk => hk.2)⟩, ⟨bW⟩⟩
      · replace c20 := Bool.eq_false_iff.mpr c20
        subst c20
        have H1 : (laws_FnExactMergeCommits.j0 k l0 a1 a2 t663 t664 t665 t670 t673 t674 t675 true) = some true := by rw [if_neg (show ¬ (false = true) by decide)] at H; exact H
        clear H
        have H := H1
        clear H1
        have H' := Aside0.mk H
        clear H
        obtain ⟨Ao33, co33, eo33⟩ := Kd.R_slice HO677.out
        subst eo33
        obtain ⟨Ao34, co34, eo34⟩ := Kd.R_slice HO667.out
        subst eo34
        go_wp2_with (((with_reducible refine gate_callee (f := 20) rfl ?_); refine goesL_ (some 47) rfl rfl Tryz.func20 (by kernel_rfl) rfl #[.slice Ao33 t673.length co33, .slice Ao34 t663.length co34] rfl gA ?_; (with_reducible refine (laws_eqEntryS.calls k _ _ t673 _ _ t663 false _ ?side1 ?side2 ?side3 ?side4 A19.out).mono ?_); (case side1 => repeat (exact (Kd.R_reads' HO677.out).2.2)); (case side2 => exact (Kd.R_reads' HO677.out).2.1); (case side3 => repeat (exact (Kd.R_reads' HO667.out).2.2)); (case side4 => exact (Kd.R_reads' HO667.out).2.1); rintro e w35 ⟨rfl, hb⟩; refine ⟨_, rfl, ?_⟩; have n0_ := Aside0.mk (Kd.S_below (pS HO662) hb); have n1_ := Aside0.mk (Kd.R_below (pR HO667) hb); have n2_ := Aside0.mk (Kd.R_below (pR HO669) hb); have n3_ := Aside0.mk (Kd.S_below (pS HO672) hb); have n4_ := Aside0.mk (Kd.R_below (pR HO677) hb); have n5_ := Aside0.mk (Kd.R_below (pR HO679) hb); have n6_ := Aside0.mk (below_step (w := w) bW hb); clear HO662; clear HO667; clear HO669; clear HO672; clear HO677; clear HO679; clear HB; have HO662 := n0_; have HO667 := n1_; have HO669 := n2_; have HO672 := n3_; have HO677 := n4_; have HO679 := n5_; have HB := n6_; clear n0_ n1_ n2_ n3_ n4_ n5_ n6_; (try clear hb)))
        go_meet
        case rel => exact ⟨_, (true), vE, H', ⟨by omega⟩, ⟨by exact Kd.R_mono HO667.out (fun _ hk => hk.2)⟩, ⟨by exact Kd.R_mono HO669.out (fun _ hk => hk.2)⟩, ⟨by exact Kd.S_mono HO672.out (fun _ hk => ⟨hk.1.2, hk.2⟩)⟩, ⟨by exact Kd.R_mono HO677.out (fun _ hk => hk.2)⟩, ⟨by exact Kd.R_mono HO679.out (fun _ hk => hk.2)⟩, ⟨bW⟩⟩
    case rest =>
      clear HC11
      try clear c5b0
      obtain ⟨kq, x59_10, rfl, HA, HJ10, HO_8, HO_9, HO_11, HO_12, HO_13, HB⟩ := hcut
      cases kq with
      | zero => exact absurd HA.out (by simp [laws_FnExactMergeCommits.j0])
      | succ kj10 =>
        have H := HA.out
        clear HA
        simp only [laws_FnExactMergeCommits.j0] at H
        by_cases c36 : x59_10 = true
        · subst c36
          have H1 : (some false) = some true := by rw [if_pos rfl] at H; exact H
          exact absurd H1 (by simp)
        · replace c36 := Bool.eq_false_iff.mpr c36
          subst c36
          have H1 : ((laws_toCommitS.f kj10 l0).bind fun t682 => ((laws_eqCommitS.f kj10 t670 t682).bind fun t685 => (if t685 = true then ((laws_markCommitS.f kj10 t670 1).bind fun t686 => (if t686 < 0 then (laws_FnExactMergeCommits.j1 kj10 l0 a1 a2 t663 t664 t665 t673 t674 true) else ((laws_eqEntryS.f kj10 t673 t663).bind fun t687 => (if t687 = true then ((laws_eqStringS.f kj10 t674 t664).bind fun t688 => (if t688 = true then (laws_FnExactMergeCommits.j1 kj10 l0 a1 a2 t663 t664 t665 t673 t674 (t675 != t665)) else (laws_FnExactMergeCommits.j1 kj10 l0 a1 a2 t663 t664 t665 t673 t674 true))) else (laws_FnExactMergeCommits.j1 kj10 l0 a1 a2 t663 t664 t665 t673 t674 true))))) else (some false)))) = some true := by rw [if_neg (show ¬ (false = true) by decide)] at H; exact H
          clear H
          have H := H1
          clear H1
          replace H := Option.bind_eq_some_iff.mp H
          obtain ⟨t682, A370, H⟩ := H
          replace H : ((laws_eqCommitS.f kj10 t670 t682).bind fun t685 => (if t685 = true then ((laws_markCommitS.f kj10 t670 1).bind fun t686 => (if t686 < 0 then (laws_FnExactMergeCommits.j1 kj10 l0 a1 a2 t663 t664 t665 t673 t674 true) else ((laws_eqEntryS.f kj10 t673 t663).bind fun t687 => (if t687 = true then ((laws_eqStringS.f kj10 t674 t664).bind fun t688 => (if t688 = true then (laws_FnExactMergeCommits.j1 kj10 l0 a1 a2 t663 t664 t665 t673 t674 (t675 != t665)) else (laws_FnExactMergeCommits.j1 kj10 l0 a1 a2 t663 t664 t665 t673 t674 true))) else (laws_FnExactMergeCommits.j1 kj10 l0 a1 a2 t663 t664 t665 t673 t674 true))))) else (some false))) = some true := H
          have A37 := Aside0.mk A370
          clear A370
          replace H := Option.bind_eq_some_iff.mp H
          obtain ⟨t685, A380, H⟩ := H
          replace H : (if t685 = true then ((laws_markCommitS.f kj10 t670 1).bind fun t686 => (if t686 < 0 then (laws_FnExactMergeCommits.j1 kj10 l0 a1 a2 t663 t664 t665 t673 t674 true) else ((laws_eqEntryS.f kj10 t673 t663).bind fun t687 => (if t687 = true then ((laws_eqStringS.f kj10 t674 t664).bind fun t688 => (if t688 = true then (laws_FnExactMergeCommits.j1 kj10 l0 a1 a2 t663 t664 t665 t673 t674 (t675 != t665)) else (laws_FnExactMergeCommits.j1 kj10 l0 a1 a2 t663 t664 t665 t673 t674 true))) else (laws_FnExactMergeCommits.j1 kj10 l0 a1 a2 t663 t664 t665 t673 t674 true))))) else (some false)) = some true := H
          have A38 := Aside0.mk A380
          clear A380
          by_cases c39 : t685 = true
          · subst c39
            have H1 : ((laws_markCommitS.f kj10 t670 1).bind fun t686 => (if t686 < 0 then (laws_FnExactMergeCommits.j1 kj10 l0 a1 a2 t663 t664 t665 t673 t674 true) else ((laws_eqEntryS.f kj10 t673 t663).bind fun t687 => (if t687 = true then ((laws_eqStringS.f kj10 t674 t664).bind fun t688 => (if t688 = true then (laws_FnExactMergeCommits.j1 kj10 l0 a1 a2 t663 t664 t665 t673 t674 (t675 != t665)) else (laws_FnExactMergeCommits.j1 kj10 l0 a1 a2 t663 t664 t665 t673 t674 true))) else (laws_FnExactMergeCommits.j1 kj10 l0 a1 a2 t663 t664 t665 t673 t674 true))))) = some true := by rw [if_pos rfl] at H; exact H
            clear H
            have H := H1
            clear H1
            replace H := Option.bind_eq_some_iff.mp H
            obtain ⟨t686, A400, H⟩ := H
            replace H : (if t686 < 0 then (laws_FnExactMergeCommits.j1 kj10 l0 a1 a2 t663 t664 t665 t673 t674 true) else ((laws_eqEntryS.f kj10 t673 t663).bind fun t687 => (if t687 = true then ((laws_eqStringS.f kj10 t674 t664).bind fun t688 => (if t688 = true then (laws_FnExactMergeCommits.j1 kj10 l0 a1 a2 t663 t664 t665 t673 t674 (t675 != t665)) else (laws_FnExactMergeCommits.j1 kj10 l0 a1 a2 t663 t664 t665 t673 t674 true))) else (laws_FnExactMergeCommits.j1 kj10 l0 a1 a2 t663 t664 t665 t673 t674 true)))) = some true := H
            have A40 := Aside0.mk A400
            clear A400
            have HC41 := Aside0.mk H
            clear H
            go_upto_region 14 with (first | ((with_reducible refine gate_callee (f := 18) rfl ?_); refine goesL_ (some 62) rfl rfl Tryz.func18 (by kernel_rfl) rfl #[.slice A0 l0.length c0] rfl gA ?_; (with_reducible refine (laws_toCommitS.calls kj10 _ _ l0 t682 _ ?side1 ?side2 A37.out).mono ?_); (case side1 => exact cB HR0); (case side2 => exact HC0.out); rintro e w42 ⟨v683, rfl, ho0, hb⟩; refine ⟨_, rfl, ?_⟩; have n0_ := Aside0.mk (Kd.R_below (pR HO_8) hb); have n1_ := Aside0.mk (Kd.R_below (pR HO_9) hb); have n2_ := Aside0.mk (Kd.S_elder' (pS HO_11) (Kd.S_base ho0) hb); have n3_ := Aside0.mk (Kd.R_below (pR HO_12) hb); have n4_ := Aside0.mk (Kd.R_below (pR HO_13) hb); have n5_ := Aside0.mk (Kd.S_lower (Kd.S_new' (Kd.S_new' (Kd.S_new' ho0 (Kd.R_lt (pR HO_8))) (Kd.S_lt (pS HO_11))) (Kd.R_lt (pR HO_12))) (below_size (w := w) bW)); have n6_ := Aside0.mk (below_step (w := w) bW hb); clear HO_8; clear HO_9; clear HO_11; clear HO_12; clear HO_13; clear HB; have HO_8 := n0_; have HO_9 := n1_; have HO_11 := n2_; have HO_12 := n3_; have HO_13 := n4_; have HO684 := n5_; have HB := n6_; clear n0_ n1_ n2_ n3_ n4_ n5_ n6_; (try clear hb); (try clear ho0); obtain ⟨Ao43, co43, eo43⟩ := Kd.S_slice HO684.out; subst eo43) | ((with_reducible refine gate_callee (f := 22) rfl ?_); refine goesL_ (some 63) rfl rfl Tryz.func22 (by kernel_rfl) rfl #[.slice Ao17 t670.length co17, .slice Ao43 t682.length co43] rfl gA ?_; (with_reducible refine (laws_eqCommitS.calls kj10 _ _ t670 _ _ t682 true _ ?side1 ?side2 ?side3 ?side4 A38.out).mono ?_); (case side1 => repeat (exact (Kd.S_reads' HO_11.out).2.2)); (case side2 => exact (Kd.S_reads' HO_11.out).2.1); (case side3 => repeat (exact (Kd.S_reads' HO684.out).2.2)); (case side4 => exact (Kd.S_reads' HO684.out).2.1); rintro e w44 ⟨rfl, hb⟩; refine ⟨_, rfl, ?_⟩; have n0_ := Aside0.mk (Kd.R_below (pR HO_8) hb); have n1_ := Aside0.mk (Kd.R_below (pR HO_9) hb); have n2_ := Aside0.mk (Kd.S_below (pS HO_11) hb); have n3_ := Aside0.mk (Kd.R_below (pR HO_12) hb); have n4_ := Aside0.mk (Kd.R_below (pR HO_13) hb); have n5_ := Aside0.mk (Kd.S_below (pS HO684) hb); have n6_ := Aside0.mk (below_step (w := w) bW hb); clear HO_8; clear HO_9; clear HO_11; clear HO_12; clear HO_13; clear HO684; clear HB; have HO_8 := n0_; have HO_9 := n1_; have HO_11 := n2_; have HO_12 := n3_; have HO_13 := n4_; have HO684 := n5_; have HB := n6_; clear n0_ n1_ n2_ n3_ n4_ n5_ n6_; (try clear hb)) | ((with_reducible refine gate_callee (f := 23) rfl ?_); refine goesL_ (some 67) rfl rfl Tryz.func23 (by kernel_rfl) rfl #[.slice Ao17 t670.length co17, .int .i64 1] rfl gA ?_; (with_reducible refine (laws_markCommitS.calls kj10 (fun k_ => ((((some k_ ≠ (v666 : Value).ownBlock ∧ some k_ ≠ (v676 : Value).ownBlock) ∧ some k_ ≠ (.slice Ao43 t682.length co43 : Value).ownBlock) ∧ some k_ ≠ (v668 : Value).ownBlock) ∧ some k_ ≠ (v678 : Value).ownBlock)) (.slice Ao17 t670.length co17) t670 1 t686 w _ ?side1 ?side2 A40.out).mono ?_); (case side1 => repeat ((with_reducible exact HB.out))); (case side2 => exact (Kd.S_apart' (Kd.S_apart' HO_11.out (Kd.R_typed HO_9.out) (by decide)) (Kd.R_typed HO_13.out) (by decide))); rintro e w45 ⟨rfl, hb, hkp⟩; refine ⟨_, rfl, ?_⟩; have n0_ := Aside0.mk (Kd.R_mono (ok' := fun k_ => some k_ ≠ (v676 : Value).ownBlock) (Kd.R_keptB ((Kd.R_mono (ok' := fun k_ => some k_ ≠ (v676 : Value).ownBlock ∧ ¬ (((((some k_ ≠ (v666 : Value).ownBlock ∧ some k_ ≠ (v676 : Value).ownBlock) ∧ some k_ ≠ (.slice Ao43 t682.length co43 : Value).ownBlock) ∧ some k_ ≠ (v668 : Value).ownBlock) ∧ some k_ ≠ (v678 : Value).ownBlock))) (Kd.R_tight2 rfl HO_8.out) (fun k_ hk => ⟨hk.2, fun hs_ => (hs_.1.1.1.1) hk.1⟩))) hkp (fun k_ hk_ hs_ => (hk_.2) hs_)) (fun k_ hk_ => hk_.1.1)); have n1_ := Aside0.mk (Kd.R_mono (ok' := fun k_ => some k_ ≠ (v678 : Value).ownBlock) (Kd.R_keptB ((Kd.R_mono (ok' := fun k_ => some k_ ≠ (v678 : Value).ownBlock ∧ ¬ (((((some k_ ≠ (v666 : Value).ownBlock ∧ some k_ ≠ (v676 : Value).ownBlock) ∧ some k_ ≠ (.slice Ao43 t682.length co43 : Value).ownBlock) ∧ some k_ ≠ (v668 : Value).ownBlock) ∧ some k_ ≠ (v678 : Value).ownBlock))) (Kd.R_tight2 rfl HO_9.out) (fun k_ hk => ⟨hk.2, fun hs_ => (hs_.1.2) hk.1⟩))) hkp (fun k_ hk_ hs_ => (hk_.2) hs_)) (fun k_ hk_ => hk_.1.1)); have n2_ := Aside0.mk (Kd.R_mono (ok' := fun k_ => some k_ ≠ (v666 : Value).ownBlock) (Kd.R_keptB ((Kd.R_mono (ok' := fun k_ => some k_ ≠ (v666 : Value).ownBlock ∧ ¬ (((((some k_ ≠ (v666 : Value).ownBlock ∧ some k_ ≠ (v676 : Value).ownBlock) ∧ some k_ ≠ (.slice Ao43 t682.length co43 : Value).ownBlock) ∧ some k_ ≠ (v668 : Value).ownBlock) ∧ some k_ ≠ (v678 : Value).ownBlock))) (Kd.R_tight2 rfl HO_12.out) (fun k_ hk => ⟨hk.2, fun hs_ => (hs_.1.1.1.2) hk.1⟩))) hkp (fun k_ hk_ hs_ => (hk_.2) hs_)) (fun k_ hk_ => hk_.1.1)); have n3_ := Aside0.mk (Kd.R_mono (ok' := fun k_ => some k_ ≠ (v668 : Value).ownBlock) (Kd.R_keptB ((Kd.R_mono (ok' := fun k_ => some k_ ≠ (v668 : Value).ownBlock ∧ ¬ (((((some k_ ≠ (v666 : Value).ownBlock ∧ some k_ ≠ (v676 : Value).ownBlock) ∧ some k_ ≠ (.slice Ao43 t682.length co43 : Value).ownBlock) ∧ some k_ ≠ (v668 : Value).ownBlock) ∧ some k_ ≠ (v678 : Value).ownBlock))) (Kd.R_tight2 rfl HO_13.out) (fun k_ hk => ⟨hk.2, fun hs_ => (hs_.2) hk.1⟩))) hkp (fun k_ hk_ hs_ => (hk_.2) hs_)) (fun k_ hk_ => hk_.1.1)); have n4_ := Aside0.mk (hb); clear HO_8; clear HO_9; clear HO_12; clear HO_13; clear HB; clear HO_11; clear HO684; have HO_8 := n0_; have HO_9 := n1_; have HO_12 := n2_; have HO_13 := n3_; have HB := n4_; clear n0_ n1_ n2_ n3_ n4_; (try clear hb); (try clear hkp)))
            go_cut [86] (fun v86 wc => ∃ (kq : Nat) (x86_40 : Bool), v86 = .bool x86_40 ∧ Aside0 (laws_FnExactMergeCommits.j1 kq l0 a1 a2 t663 t664 t665 t673 t674 x86_40 = some true) ∧ Aside0 (kq ≤ kj10) ∧ Aside0 (Kd.R k84 84 wc w.heap.size (fun k_ => some k_ ≠ (v676 : Value).ownBlock) v666 t663) ∧ Aside0 (Kd.R Kd.string 9 wc w.heap.size (fun k_ => some k_ ≠ (v678 : Value).ownBlock) v668 t664) ∧ Aside0 (Kd.R k84 84 wc w.heap.size (fun k_ => some k_ ≠ (v666 : Value).ownBlock) v676 t673) ∧ Aside0 (Kd.R Kd.string 9 wc w.heap.size (fun k_ => some k_ ≠ (v668 : Value).ownBlock) v678 t674) ∧ Aside0 (Below w.heap.size w wc))
            case first =>
              have H := HC41.out
              clear HC41
              by_cases c46 : t686 < 0
              · rw [if_pos c46] at H
                have c46b0 : decide (t686 < 0) = true := decide_eq_true c46
                clear c46
                have H' := Aside0.mk H
                clear H
                go_wp2
                go_meet
                case rel => exact ⟨_, (true), vE, H', ⟨by have := HJ10.out; omega⟩, ⟨by exact HO_8.out⟩, ⟨by exact HO_9.out⟩, ⟨by exact HO_12.out⟩, ⟨by exact HO_13.out⟩, ⟨bW⟩⟩
              · rw [if_neg c46] at H
                have c46b0 : decide (t686 < 0) = false := decide_eq_false c46
                clear c46
                replace H := Option.bind_eq_some_iff.mp H
                obtain ⟨t687, A470, H⟩ := H
                replace H : (if t687 = true then ((laws_eqStringS.f kj10 t674 t664).bind fun t688 => (if t688 = true then (laws_FnExactMergeCommits.j1 kj10 l0 a1 a2 t663 t664 t665 t673 t674 (t675 != t665)) else (laws_FnExactMergeCommits.j1 kj10 l0 a1 a2 t663 t664 t665 t673 t674 true))) else (laws_FnExactMergeCommits.j1 kj10 l0 a1 a2 t663 t664 t665 t673 t674 true)) = some true := H
                have A47 := Aside0.mk A470
                clear A470
                by_cases c48 : t687 = true
                · subst c48
                  have H1 : ((laws_eqStringS.f kj10 t674 t664).bind fun t688 => (if t688 = true then (laws_FnExactMergeCommits.j1 kj10 l0 a1 a2 t663 t664 t665 t673 t674 (t675 != t665)) else (laws_FnExactMergeCommits.j1 kj10 l0 a1 a2 t663 t664 t665 t673 t674 true))) = some true := by rw [if_pos rfl] at H; exact H
                  clear H
                  have H := H1
                  clear H1
                  replace H := Option.bind_eq_some_iff.mp H
                  obtain ⟨t688, A490, H⟩ := H
                  replace H : (if t688 = true then (laws_FnExactMergeCommits.j1 kj10 l0 a1 a2 t663 t664 t665 t673 t674 (t675 != t665)) else (laws_FnExactMergeCommits.j1 kj10 l0 a1 a2 t663 t664 t665 t673 t674 true)) = some true := H
                  have A49 := Aside0.mk A490
                  clear A490
                  by_cases c50 : t688 = true
                  · subst c50
                    have H1 : (laws_FnExactMergeCommits.j1 kj10 l0 a1 a2 t663 t664 t665 t673 t674 (t675 != t665)) = some true := by rw [if_pos rfl] at H; exact H
                    clear H
                    have H := H1
                    clear H1
                    have H' := Aside0.mk H
                    clear H
                    obtain ⟨Ao51, co51, eo51⟩ := Kd.R_slice HO_12.out
                    subst eo51
                    obtain ⟨Ao52, co52, eo52⟩ := Kd.R_slice HO_8.out
                    subst eo52
                    go_wp2_with (first | (go_at_call 20; (with_reducible refine (laws_eqEntryS.calls kj10 _ _ t673 _ _ t663 true _ ?side1 ?side2 ?side3 ?side4 A47.out).mono ?_); (case side1 => repeat (exact (Kd.R_reads' HO_12.out).2.2)); (case side2 => exact (Kd.R_reads' HO_12.out).2.1); (case side3 => repeat (exact (Kd.R_reads' HO_8.out).2.2)); (case side4 => exact (Kd.R_reads' HO_8.out).2.1); rintro e w53 ⟨rfl, hb⟩; have n0_ := Aside0.mk (Kd.R_below (pR HO_8) hb); have n1_ := Aside0.mk (Kd.R_below (pR HO_9) hb); have n2_ := Aside0.mk (Kd.R_below (pR HO_12) hb); have n3_ := Aside0.mk (Kd.R_below (pR HO_13) hb); have n4_ := Aside0.mk (below_step (w := w) bW hb); clear HO_8; clear HO_9; clear HO_12; clear HO_13; clear HB; have HO_8 := n0_; have HO_9 := n1_; have HO_12 := n2_; have HO_13 := n3_; have HB := n4_; clear n0_ n1_ n2_ n3_ n4_; (try clear hb); obtain ⟨Ao54, co54, eo54⟩ := Kd.R_slice HO_13.out; subst eo54; obtain ⟨Ao55, co55, eo55⟩ := Kd.R_slice HO_9.out; subst eo55) | (go_at_call 21; (with_reducible refine (laws_eqStringS.calls kj10 _ _ t674 _ _ t664 true _ ?side1 ?side2 ?side3 ?side4 A49.out).mono ?_); (case side1 => repeat (exact (Kd.R_reads' HO_13.out).2.2)); (case side2 => exact (Kd.R_reads' HO_13.out).2.1); (case side3 => repeat (exact (Kd.R_reads' HO_9.out).2.2)); (case side4 => exact (Kd.R_reads' HO_9.out).2.1); rintro e w' ⟨rfl, ⟨nd, rfl⟩⟩))
                    go_meet
                    case rel => exact ⟨_, ((t675 != t665)), vE, H', ⟨by have := HJ10.out; omega⟩, ⟨by (with_reducible repeat (apply Kd.R_drewN)); exact HO_8.out⟩, ⟨by (with_reducible repeat (apply Kd.R_drewN)); exact HO_9.out⟩, ⟨by (with_reducible repeat (apply Kd.R_drewN)); exact HO_12.out⟩, ⟨by (with_reducible repeat (apply Kd.R_drewN)); exact HO_13.out⟩, ⟨bW⟩⟩
                  · replace c50 := Bool.eq_false_iff.mpr c50
                    subst c50
                    have H1 : (laws_FnExactMergeCommits.j1 kj10 l0 a1 a2 t663 t664 t665 t673 t674 true) = some true := by rw [if_neg (show ¬ (false = true) by decide)] at H; exact H
                    clear H
                    have H := H1
                    clear H1
                    have H' := Aside0.mk H
                    clear H
                    obtain ⟨Ao56, co56, eo56⟩ := Kd.R_slice HO_12.out
                    subst eo56
                    obtain ⟨Ao57, co57, eo57⟩ := Kd.R_slice HO_8.out
                    subst eo57
                    go_wp2_with (first | (go_at_call 20; (with_reducible refine (laws_eqEntryS.calls kj10 _ _ t673 _ _ t663 true _ ?side1 ?side2 ?side3 ?side4 A47.out).mono ?_); (case side1 => repeat (exact (Kd.R_reads' HO_12.out).2.2)); (case side2 => exact (Kd.R_reads' HO_12.out).2.1); (case side3 => repeat (exact (Kd.R_reads' HO_8.out).2.2)); (case side4 => exact (Kd.R_reads' HO_8.out).2.1); rintro e w58 ⟨rfl, hb⟩; have n0_ := Aside0.mk (Kd.R_below (pR HO_8) hb); have n1_ := Aside0.mk (Kd.R_below (pR HO_9) hb); have n2_ := Aside0.mk (Kd.R_below (pR HO_12) hb); have n3_ := Aside0.mk (Kd.R_below (pR HO_13) hb); have n4_ := Aside0.mk (below_step (w := w) bW hb); clear HO_8; clear HO_9; clear HO_12; clear HO_13; clear HB; have HO_8 := n0_; have HO_9 := n1_; have HO_12 := n2_; have HO_13 := n3_; have HB := n4_; clear n0_ n1_ n2_ n3_ n4_; (try clear hb); obtain ⟨Ao59, co59, eo59⟩ := Kd.R_slice HO_13.out; subst eo59; obtain ⟨Ao60, co60, eo60⟩ := Kd.R_slice HO_9.out; subst eo60) | (go_at_call 21; (with_reducible refine (laws_eqStringS.calls kj10 _ _ t674 _ _ t664 false _ ?side1 ?side2 ?side3 ?side4 A49.out).mono ?_); (case side1 => repeat (exact (Kd.R_reads' HO_13.out).2.2)); (case side2 => exact (Kd.R_reads' HO_13.out).2.1); (case side3 => repeat (exact (Kd.R_reads' HO_9.out).2.2)); (case side4 => exact (Kd.R_reads' HO_9.out).2.1); rintro e w' ⟨rfl, ⟨nd, rfl⟩⟩))
                    go_meet
                    case rel => exact ⟨_, (true), vE, H', ⟨by have := HJ10.out; omega⟩, ⟨by (with_reducible repeat (apply Kd.R_drewN)); exact HO_8.out⟩, ⟨by (with_reducible repeat (apply Kd.R_drewN)); exact HO_9.out⟩, ⟨by (with_reducible repeat (apply Kd.R_drewN)); exact HO_12.out⟩, ⟨by (with_reducible repeat (apply Kd.R_drewN)); exact HO_13.out⟩, ⟨bW⟩⟩
                · replace c48 := Bool.eq_false_iff.mpr c48
                  subst c48
                  have H1 : (laws_FnExactMergeCommits.j1 kj10 l0 a1 a2 t663 t664 t665 t673 t674 true) = some true := by rw [if_neg (show ¬ (false = true) by decide)] at H; exact H
                  clear H
                  have H := H1
                  clear H1
                  have H' := Aside0.mk H
                  clear H
                  obtain ⟨Ao61, co61, eo61⟩ := Kd.R_slice HO_12.out
                  subst eo61
                  obtain ⟨Ao62, co62, eo62⟩ := Kd.R_slice HO_8.out
                  subst eo62
                  go_wp2_with ((go_at_call 20; (with_reducible refine (laws_eqEntryS.calls kj10 _ _ t673 _ _ t663 false _ ?side1 ?side2 ?side3 ?side4 A47.out).mono ?_); (case side1 => repeat (exact (Kd.R_reads' HO_12.out).2.2)); (case side2 => exact (Kd.R_reads' HO_12.out).2.1); (case side3 => repeat (exact (Kd.R_reads' HO_8.out).2.2)); (case side4 => exact (Kd.R_reads' HO_8.out).2.1); rintro e w63 ⟨rfl, hb⟩; have n0_ := Aside0.mk (Kd.R_below (pR HO_8) hb); have n1_ := Aside0.mk (Kd.R_below (pR HO_9) hb); have n2_ := Aside0.mk (Kd.R_below (pR HO_12) hb); have n3_ := Aside0.mk (Kd.R_below (pR HO_13) hb); have n4_ := Aside0.mk (below_step (w := w) bW hb); clear HO_8; clear HO_9; clear HO_12; clear HO_13; clear HB; have HO_8 := n0_; have HO_9 := n1_; have HO_12 := n2_; have HO_13 := n3_; have HB := n4_; clear n0_ n1_ n2_ n3_ n4_; (try clear hb)))
                  go_meet
                  case rel => exact ⟨_, (true), vE, H', ⟨by have := HJ10.out; omega⟩, ⟨by exact HO_8.out⟩, ⟨by exact HO_9.out⟩, ⟨by exact HO_12.out⟩, ⟨by exact HO_13.out⟩, ⟨bW⟩⟩
            case rest =>
              clear HC41
              obtain ⟨kq, x86_40, rfl, HA, HJ40, HO_8, HO_9, HO_12, HO_13, HB⟩ := hcut
              cases kq with
              | zero => exact absurd HA.out (by simp [laws_FnExactMergeCommits.j1])
              | succ kj40 =>
                have H := HA.out
                clear HA
                simp only [laws_FnExactMergeCommits.j1] at H
                by_cases c64 : x86_40 = true
                · subst c64
                  have H1 : (some false) = some true := by rw [if_pos rfl] at H; exact H
                  exact absurd H1 (by simp)
                · replace c64 := Bool.eq_false_iff.mpr c64
                  subst c64
                  have H1 : ((laws_markEntryS.f kj40 t673 1).bind fun bt689 => ((laws_markStringS.f kj40 t674 bt689.1).bind fun bt691 => ((laws_heldEntryS.f kj40 bt689.2 1).bind fun t693 => (if t693 < 0 then (some false) else ((laws_heldStringS.f kj40 bt691.2 t693).bind fun t694 => (if t694 < 0 then (some false) else (if t694 = bt691.1 then ((laws_toCommitS.f kj40 l0).bind fun t695 => ((impl_MergeCommits.f kj40 t695 a1 a2).bind fun bt698 => ((laws_eqEntryS.f kj40 bt698.1 t663).bind fun t705 => (if t705 = true then ((laws_eqStringS.f kj40 bt698.2.1 t664).bind fun t706 => (if t706 = true then (laws_FnExactMergeCommits.j2 kj40 bt689.2 bt691.2 bt691.1 (bt698.2.2 != t665)) else (laws_FnExactMergeCommits.j2 kj40 bt689.2 bt691.2 bt691.1 true))) else (laws_FnExactMergeCommits.j2 kj40 bt689.2 bt691.2 bt691.1 true))))) else (some false)))))))) = some true := by rw [if_neg (show ¬ (false = true) by decide)] at H; exact H
                  clear H
                  have H := H1
                  clear H1
                  replace H := Option.bind_eq_some_iff.mp H
                  obtain ⟨⟨t689, t690⟩, A650, H⟩ := H
                  replace H : ((laws_markStringS.f kj40 t674 t689).bind fun bt691 => ((laws_heldEntryS.f kj40 t690 1).bind fun t693 => (if t693 < 0 then (some false) else ((laws_heldStringS.f kj40 bt691.2 t693).bind fun t694 => (if t694 < 0 then (some false) else (if t694 = bt691.1 then ((laws_toCommitS.f kj40 l0).bind fun t695 => ((impl_MergeCommits.f kj40 t695 a1 a2).bind fun bt698 => ((laws_eqEntryS.f kj40 bt698.1 t663).bind fun t705 => (if t705 = true then ((laws_eqStringS.f kj40 bt698.2.1 t664).bind fun t706 => (if t706 = true then (laws_FnExactMergeCommits.j2 kj40 t690 bt691.2 bt691.1 (bt698.2.2 != t665)) else (laws_FnExactMergeCommits.j2 kj40 t690 bt691.2 bt691.1 true))) else (laws_FnExactMergeCommits.j2 kj40 t690 bt691.2 bt691.1 true))))) else (some false))))))) = some true := H
                  have A65 := Aside0.mk A650
                  clear A650
                  replace H := Option.bind_eq_some_iff.mp H
                  obtain ⟨⟨t691, t692⟩, A660, H⟩ := H
                  replace H : ((laws_heldEntryS.f kj40 t690 1).bind fun t693 => (if t693 < 0 then (some false) else ((laws_heldStringS.f kj40 t692 t693).bind fun t694 => (if t694 < 0 then (some false) else (if t694 = t691 then ((laws_toCommitS.f kj40 l0).bind fun t695 => ((impl_MergeCommits.f kj40 t695 a1 a2).bind fun bt698 => ((laws_eqEntryS.f kj40 bt698.1 t663).bind fun t705 => (if t705 = true then ((laws_eqStringS.f kj40 bt698.2.1 t664).bind fun t706 => (if t706 = true then (laws_FnExactMergeCommits.j2 kj40 t690 t692 t691 (bt698.2.2 != t665)) else (laws_FnExactMergeCommits.j2 kj40 t690 t692 t691 true))) else (laws_FnExactMergeCommits.j2 kj40 t690 t692 t691 true))))) else (some false)))))) = some true := H
                  have A66 := Aside0.mk A660
                  clear A660
                  replace H := Option.bind_eq_some_iff.mp H
                  obtain ⟨t693, A670, H⟩ := H
                  replace H : (if t693 < 0 then (some false) else ((laws_heldStringS.f kj40 t692 t693).bind fun t694 => (if t694 < 0 then (some false) else (if t694 = t691 then ((laws_toCommitS.f kj40 l0).bind fun t695 => ((impl_MergeCommits.f kj40 t695 a1 a2).bind fun bt698 => ((laws_eqEntryS.f kj40 bt698.1 t663).bind fun t705 => (if t705 = true then ((laws_eqStringS.f kj40 bt698.2.1 t664).bind fun t706 => (if t706 = true then (laws_FnExactMergeCommits.j2 kj40 t690 t692 t691 (bt698.2.2 != t665)) else (laws_FnExactMergeCommits.j2 kj40 t690 t692 t691 true))) else (laws_FnExactMergeCommits.j2 kj40 t690 t692 t691 true))))) else (some false))))) = some true := H
                  have A67 := Aside0.mk A670
                  clear A670
                  by_cases c68 : t693 < 0
                  · rw [if_pos c68] at H
                    exact absurd H (by simp)
                  · rw [if_neg c68] at H
                    have c68b0 : decide (t693 < 0) = false := decide_eq_false c68
                    clear c68
                    replace H := Option.bind_eq_some_iff.mp H
                    obtain ⟨t694, A740, H⟩ := H
                    replace H : (if t694 < 0 then (some false) else (if t694 = t691 then ((laws_toCommitS.f kj40 l0).bind fun t695 => ((impl_MergeCommits.f kj40 t695 a1 a2).bind fun bt698 => ((laws_eqEntryS.f kj40 bt698.1 t663).bind fun t705 => (if t705 = true then ((laws_eqStringS.f kj40 bt698.2.1 t664).bind fun t706 => (if t706 = true then (laws_FnExactMergeCommits.j2 kj40 t690 t692 t691 (bt698.2.2 != t665)) else (laws_FnExactMergeCommits.j2 kj40 t690 t692 t691 true))) else (laws_FnExactMergeCommits.j2 kj40 t690 t692 t691 true))))) else (some false))) = some true := H
                    have A74 := Aside0.mk A740
                    clear A740
                    by_cases c75 : t694 < 0
                    · rw [if_pos c75] at H
                      exact absurd H (by simp)
                    · rw [if_neg c75] at H
                      have c75b0 : decide (t694 < 0) = false := decide_eq_false c75
                      clear c75
                      by_cases c82 : t694 = t691
                      · rw [if_pos c82] at H
                        have c82b0 : (t694 == t691) = true := beq_iff_eq.mpr c82
                        have c82b1 : (t694 != t691) = false := bne_eq_false_iff_eq.mpr c82
                        clear c82
                        replace H := Option.bind_eq_some_iff.mp H
                        obtain ⟨t695, A830, H⟩ := H
                        replace H : ((impl_MergeCommits.f kj40 t695 a1 a2).bind fun bt698 => ((laws_eqEntryS.f kj40 bt698.1 t663).bind fun t705 => (if t705 = true then ((laws_eqStringS.f kj40 bt698.2.1 t664).bind fun t706 => (if t706 = true then (laws_FnExactMergeCommits.j2 kj40 t690 t692 t691 (bt698.2.2 != t665)) else (laws_FnExactMergeCommits.j2 kj40 t690 t692 t691 true))) else (laws_FnExactMergeCommits.j2 kj40 t690 t692 t691 true)))) = some true := H
                        have A83 := Aside0.mk A830
                        clear A830
                        replace H := Option.bind_eq_some_iff.mp H
                        obtain ⟨⟨t698, t699, t700⟩, A840, H⟩ := H
                        replace H : ((laws_eqEntryS.f kj40 t698 t663).bind fun t705 => (if t705 = true then ((laws_eqStringS.f kj40 t699 t664).bind fun t706 => (if t706 = true then (laws_FnExactMergeCommits.j2 kj40 t690 t692 t691 (t700 != t665)) else (laws_FnExactMergeCommits.j2 kj40 t690 t692 t691 true))) else (laws_FnExactMergeCommits.j2 kj40 t690 t692 t691 true))) = some true := H
                        have A84 := Aside0.mk A840
                        clear A840
                        have HC85 := Aside0.mk H
                        clear H
                        obtain ⟨Ao86, co86, eo86⟩ := Kd.R_slice HO_12.out
                        subst eo86
                        go_upto_region 29 with (first | ((with_reducible refine gate_callee (f := 24) rfl ?_); refine goesL_ (some 89) rfl rfl Tryz.func24 (by kernel_rfl) rfl #[.slice Ao86 t673.length co86, .int .i64 1] rfl gA ?_; (with_reducible refine (laws_markEntryS.calls kj40 (fun k_ => some k_ = (.slice Ao86 t673.length co86 : Value).ownBlock) (.slice Ao86 t673.length co86) t673 1 t689 t690 w _ ?side1 ?side2 A65.out).mono ?_); (case side1 => repeat ((with_reducible exact HB.out))); (case side2 => exact Kd.R_tight rfl HO_12.out); rintro e w87 ⟨rfl, hy0, hb, hkp⟩; refine ⟨_, rfl, ?_⟩; have n0_ := Aside0.mk (Kd.R_mono (ok' := fun k_ => some k_ ≠ (.slice Ao86 t673.length co86 : Value).ownBlock) (Kd.R_keptB (HO_8.out) hkp (fun k_ hk_ hs_ => (hk_) hs_)) (fun k_ hk_ => hk_.1)); have n1_ := Aside0.mk (Kd.R_mono (ok' := fun k_ => some k_ ≠ (v678 : Value).ownBlock) (Kd.R_keptB ((Kd.R_apart' HO_9.out (Kd.R_typed HO_12.out) (by decide))) hkp (fun k_ hk_ hs_ => (hk_.2) hs_)) (fun k_ hk_ => hk_.1.1)); have n2_ := Aside0.mk (Kd.R_reok rfl hy0 (fun k_ e_ => HO_12.out.1 k_ e_)); have n3_ := Aside0.mk (Kd.R_mono (ok' := fun k_ => some k_ ≠ (v668 : Value).ownBlock) (Kd.R_keptB ((Kd.R_apart' HO_13.out (Kd.R_typed HO_12.out) (by decide))) hkp (fun k_ hk_ hs_ => (hk_.2) hs_)) (fun k_ hk_ => hk_.1.1)); have n4_ := Aside0.mk (hb); clear HO_8; clear HO_9; clear HO_12; clear HO_13; clear HB; have HO_8 := n0_; have HO_9 := n1_; have HO_12 := n2_; have HO_13 := n3_; have HB := n4_; clear n0_ n1_ n2_ n3_ n4_; (try clear hb); (try clear hkp); (try clear hy0); obtain ⟨Ao88, co88, eo88⟩ := Kd.R_slice HO_13.out; subst eo88) | ((with_reducible refine gate_callee (f := 25) rfl ?_); refine goesL_ (some 92) rfl rfl Tryz.func25 (by kernel_rfl) rfl #[.slice Ao88 t674.length co88, .int .i64 t689] rfl gA ?_; (with_reducible refine (laws_markStringS.calls kj40 (fun k_ => some k_ = (.slice Ao88 t674.length co88 : Value).ownBlock) (.slice Ao88 t674.length co88) t674 t689 t691 t692 w _ ?side1 ?side2 A66.out).mono ?_); (case side1 => repeat ((with_reducible exact HB.out))); (case side2 => exact Kd.R_tight rfl HO_13.out); rintro e w89 ⟨rfl, hy0, hb, hkp⟩; refine ⟨_, rfl, ?_⟩; have n0_ := Aside0.mk (Kd.R_mono (ok' := fun k_ => some k_ ≠ (.slice Ao86 t673.length co86 : Value).ownBlock) (Kd.R_keptB ((Kd.R_apart' HO_8.out (Kd.R_typed HO_13.out) (by decide))) hkp (fun k_ hk_ hs_ => (hk_.2) hs_)) (fun k_ hk_ => hk_.1.1)); have n1_ := Aside0.mk (Kd.R_mono (ok' := fun k_ => some k_ ≠ (.slice Ao88 t674.length co88 : Value).ownBlock) (Kd.R_keptB (HO_9.out) hkp (fun k_ hk_ hs_ => (hk_) hs_)) (fun k_ hk_ => hk_.1)); have n2_ := Aside0.mk (Kd.R_mono (ok' := fun k_ => some k_ ≠ (v666 : Value).ownBlock) (Kd.R_keptB ((Kd.R_apart' HO_12.out (Kd.R_typed HO_13.out) (by decide))) hkp (fun k_ hk_ hs_ => (hk_.2) hs_)) (fun k_ hk_ => hk_.1.1)); have n3_ := Aside0.mk (Kd.R_reok rfl hy0 (fun k_ e_ => HO_13.out.1 k_ e_)); have n4_ := Aside0.mk (hb); clear HO_8; clear HO_9; clear HO_12; clear HO_13; clear HB; have HO_8 := n0_; have HO_9 := n1_; have HO_12 := n2_; have HO_13 := n3_; have HB := n4_; clear n0_ n1_ n2_ n3_ n4_; (try clear hb); (try clear hkp); (try clear hy0)) | ((with_reducible refine gate_callee (f := 26) rfl ?_); refine goesL_ (some 95) rfl rfl Tryz.func26 (by kernel_rfl) rfl #[.slice Ao86 t690.length co86, .int .i64 1] rfl (by (try simp only [List.map_toArray, List.map_cons, List.map_nil]); (rw [show t690.length = t673.length from (Kd.R_reads' HO_12.out).1.symm] <;> rfl)) ?_; (with_reducible refine (laws_heldEntryS.calls kj40 _ _ t690 1 t693 _ ?side1 ?side2 A67.out).mono ?_); (case side1 => repeat (exact (Kd.R_reads' HO_12.out).2.2)); (case side2 => rw [show t690.length = t673.length from (Kd.R_reads' HO_12.out).1.symm]; exact (Kd.R_reads' HO_12.out).2.1); rintro e w90 ⟨rfl, hb⟩; refine ⟨_, rfl, ?_⟩; have n0_ := Aside0.mk (Kd.R_below (pR HO_8) hb); have n1_ := Aside0.mk (Kd.R_below (pR HO_9) hb); have n2_ := Aside0.mk (Kd.R_below (pR HO_12) hb); have n3_ := Aside0.mk (Kd.R_below (pR HO_13) hb); have n4_ := Aside0.mk (below_step (w := w) bW hb); clear HO_8; clear HO_9; clear HO_12; clear HO_13; clear HB; have HO_8 := n0_; have HO_9 := n1_; have HO_12 := n2_; have HO_13 := n3_; have HB := n4_; clear n0_ n1_ n2_ n3_ n4_; (try clear hb)) | ((with_reducible refine gate_callee (f := 27) rfl ?_); refine goesL_ (some 100) rfl rfl Tryz.func27 (by kernel_rfl) rfl #[.slice Ao88 t692.length co88, .int .i64 t693] rfl (by (try simp only [List.map_toArray, List.map_cons, List.map_nil]); (rw [show t692.length = t674.length from (Kd.R_reads' HO_13.out).1.symm] <;> rfl)) ?_; (with_reducible refine (laws_heldStringS.calls kj40 _ _ t692 t693 t694 _ ?side1 ?side2 A74.out).mono ?_); (case side1 => repeat (exact (Kd.R_reads' HO_13.out).2.2)); (case side2 => rw [show t692.length = t674.length from (Kd.R_reads' HO_13.out).1.symm]; exact (Kd.R_reads' HO_13.out).2.1); rintro e w91 ⟨rfl, hb⟩; refine ⟨_, rfl, ?_⟩; have n0_ := Aside0.mk (Kd.R_below (pR HO_8) hb); have n1_ := Aside0.mk (Kd.R_below (pR HO_9) hb); have n2_ := Aside0.mk (Kd.R_below (pR HO_12) hb); have n3_ := Aside0.mk (Kd.R_below (pR HO_13) hb); have n4_ := Aside0.mk (below_step (w := w) bW hb); clear HO_8; clear HO_9; clear HO_12; clear HO_13; clear HB; have HO_8 := n0_; have HO_9 := n1_; have HO_12 := n2_; have HO_13 := n3_; have HB := n4_; clear n0_ n1_ n2_ n3_ n4_; (try clear hb)) | ((with_reducible refine gate_callee (f := 18) rfl ?_); refine goesL_ (some 108) rfl rfl Tryz.func18 (by kernel_rfl) rfl #[.slice A0 l0.length c0] rfl gA ?_; (with_reducible refine (laws_toCommitS.calls kj40 _ _ l0 t695 _ ?side1 ?side2 A83.out).mono ?_); (case side1 => exact cB HR0); (case side2 => exact HC0.out); rintro e w92 ⟨v696, rfl, ho0, hb⟩; refine ⟨_, rfl, ?_⟩; have n0_ := Aside0.mk (Kd.R_below (pR HO_8) hb); have n1_ := Aside0.mk (Kd.R_below (pR HO_9) hb); have n2_ := Aside0.mk (Kd.R_below (pR HO_12) hb); have n3_ := Aside0.mk (Kd.R_below (pR HO_13) hb); have n4_ := Aside0.mk (Kd.S_lower (Kd.S_new' (Kd.S_new' ho0 (Kd.R_lt (pR HO_8))) (Kd.R_lt (pR HO_12))) (below_size (w := w) bW)); have n5_ := Aside0.mk (below_step (w := w) bW hb); clear HO_8; clear HO_9; clear HO_12; clear HO_13; clear HB; have HO_8 := n0_; have HO_9 := n1_; have HO_12 := n2_; have HO_13 := n3_; have HO697 := n4_; have HB := n5_; clear n0_ n1_ n2_ n3_ n4_ n5_; (try clear hb); (try clear ho0); obtain ⟨Ao93, co93, eo93⟩ := Kd.S_slice HO697.out; subst eo93) | ((with_reducible refine gate_callee (f := 19) rfl ?_); refine goesL_ (some 111) rfl rfl Tryz.func19 (by kernel_rfl) rfl #[.slice Ao93 t695.length co93, .int .i64 a1, .int .i64 a2] rfl gA ?_; (with_reducible refine (impl_MergeCommits.calls kj40 _ _ t695 a1 a2 t698 t699 t700 _ ?side1 ?side2 A84.out).mono ?_); (case side1 => repeat (exact (Kd.S_reads' HO697.out).2.2)); (case side2 => exact (Kd.S_reads' HO697.out).2.1); rintro e w94 ⟨v701, v703, rfl, ho0, ho1, hb⟩; refine ⟨_, rfl, ?_⟩; have n0_ := Aside0.mk (Kd.R_elder' (pR HO_8) (Kd.R_base ho0) hb); have n1_ := Aside0.mk (Kd.R_elder' (pR HO_9) (Kd.R_base ho1) hb); have n2_ := Aside0.mk (Kd.R_elder' (pR HO_12) (Kd.R_base ho0) hb); have n3_ := Aside0.mk (Kd.R_elder' (pR HO_13) (Kd.R_base ho1) hb); have n4_ := Aside0.mk (Kd.S_elder' (pS HO697) (Kd.R_base ho0) hb); have n5_ := Aside0.mk (Kd.R_lower (Kd.R_new' (Kd.R_new' ho0 (Kd.R_lt (pR HO_8))) (Kd.R_lt (pR HO_12))) (below_size (w := w) bW)); have n6_ := Aside0.mk (Kd.R_lower (Kd.R_new' (Kd.R_new' ho1 (Kd.R_lt (pR HO_9))) (Kd.R_lt (pR HO_13))) (below_size (w := w) bW)); have n7_ := Aside0.mk (below_step (w := w) bW hb); clear HO_8; clear HO_9; clear HO_12; clear HO_13; clear HO697; clear HB; have HO_8 := n0_; have HO_9 := n1_; have HO_12 := n2_; have HO_13 := n3_; have HO697 := n4_; have HO702 := n5_; have HO704 := n6_; have HB := n7_; clear n0_ n1_ n2_ n3_ n4_ n5_ n6_ n7_; (try clear hb); (try clear ho0); (try clear ho1)))
                        go_cut [129] (fun v129 wc => ∃ (kq : Nat) (x129_84 : Bool), v129 = .bool x129_84 ∧ Aside0 (laws_FnExactMergeCommits.j2 kq t690 t692 t691 x129_84 = some true) ∧ Aside0 (kq ≤ kj40) ∧ Aside0 (Kd.R k84 84 wc w.heap.size (fun _ => True) (.slice Ao86 t673.length co86) t690) ∧ Aside0 (Kd.R Kd.string 9 wc w.heap.size (fun _ => True) (.slice Ao88 t674.length co88) t692) ∧ Aside0 (Below w.heap.size w wc))
                        case first =>
                          have H := HC85.out
                          clear HC85
                          replace H := Option.bind_eq_some_iff.mp H
                          obtain ⟨t705, A950, H⟩ := H
                          replace H : (if t705 = true then ((laws_eqStringS.f kj40 t699 t664).bind fun t706 => (if t706 = true then (laws_FnExactMergeCommits.j2 kj40 t690 t692 t691 (t700 != t665)) else (laws_FnExactMergeCommits.j2 kj40 t690 t692 t691 true))) else (laws_FnExactMergeCommits.j2 kj40 t690 t692 t691 true)) = some true := H
                          have A95 := Aside0.mk A950
                          clear A950
                          by_cases c96 : t705 = true
                          · subst c96
                            have H1 : ((laws_eqStringS.f kj40 t699 t664).bind fun t706 => (if t706 = true then (laws_FnExactMergeCommits.j2 kj40 t690 t692 t691 (t700 != t665)) else (laws_FnExactMergeCommits.j2 kj40 t690 t692 t691 true))) = some true := by rw [if_pos rfl] at H; exact H
                            clear H
                            have H := H1
                            clear H1
                            replace H := Option.bind_eq_some_iff.mp H
                            obtain ⟨t706, A970, H⟩ := H
                            replace H : (if t706 = true then (laws_FnExactMergeCommits.j2 kj40 t690 t692 t691 (t700 != t665)) else (laws_FnExactMergeCommits.j2 kj40 t690 t692 t691 true)) = some true := H
                            have A97 := Aside0.mk A970
                            clear A970
                            by_cases c98 : t706 = true
                            · subst c98
                              have H1 : (laws_FnExactMergeCommits.j2 kj40 t690 t692 t691 (t700 != t665)) = some true := by rw [if_pos rfl] at H; exact H
                              clear H
                              have H := H1
                              clear H1
                              have H' := Aside0.mk H
                              clear H
                              obtain ⟨Ao99, co99, eo99⟩ := Kd.R_slice HO702.out
                              subst eo99
                              obtain ⟨Ao100, co100, eo100⟩ := Kd.R_slice HO_8.out
                              subst eo100
                              go_wp2_with (first | ((with_reducible refine gate_callee (f := 20) rfl ?_); refine goesL_ (some 117) rfl rfl Tryz.func20 (by kernel_rfl) rfl #[.slice Ao99 t698.length co99, .slice Ao100 t663.length co100] rfl gA ?_; (with_reducible refine (laws_eqEntryS.calls kj40 _ _ t698 _ _ t663 true _ ?side1 ?side2 ?side3 ?side4 A95.out).mono ?_); (case side1 => repeat (exact (Kd.R_reads' HO702.out).2.2)); (case side2 => exact (Kd.R_reads' HO702.out).2.1); (case side3 => repeat (exact (Kd.R_reads' HO_8.out).2.2)); (case side4 => exact (Kd.R_reads' HO_8.out).2.1); rintro e w101 ⟨rfl, hb⟩; refine ⟨_, rfl, ?_⟩; have n0_ := Aside0.mk (Kd.R_below (pR HO_8) hb); have n1_ := Aside0.mk (Kd.R_below (pR HO_9) hb); have n2_ := Aside0.mk (Kd.R_below (pR HO_12) hb); have n3_ := Aside0.mk (Kd.R_below (pR HO_13) hb); have n4_ := Aside0.mk (Kd.S_below (pS HO697) hb); have n5_ := Aside0.mk (Kd.R_below (pR HO702) hb); have n6_ := Aside0.mk (Kd.R_below (pR HO704) hb); have n7_ := Aside0.mk (below_step (w := w) bW hb); clear HO_8; clear HO_9; clear HO_12; clear HO_13; clear HO697; clear HO702; clear HO704; clear HB; have HO_8 := n0_; have HO_9 := n1_; have HO_12 := n2_; have HO_13 := n3_; have HO697 := n4_; have HO702 := n5_; have HO704 := n6_; have HB := n7_; clear n0_ n1_ n2_ n3_ n4_ n5_ n6_ n7_; (try clear hb); obtain ⟨Ao102, co102, eo102⟩ := Kd.R_slice HO704.out; subst eo102; obtain ⟨Ao103, co103, eo103⟩ := Kd.R_slice HO_9.out; subst eo103) | (go_at_call 21; (with_reducible refine (laws_eqStringS.calls kj40 _ _ t699 _ _ t664 true _ ?side1 ?side2 ?side3 ?side4 A97.out).mono ?_); (case side1 => repeat (exact (Kd.R_reads' HO704.out).2.2)); (case side2 => exact (Kd.R_reads' HO704.out).2.1); (case side3 => repeat (exact (Kd.R_reads' HO_9.out).2.2)); (case side4 => exact (Kd.R_reads' HO_9.out).2.1); rintro e w' ⟨rfl, ⟨nd, rfl⟩⟩))
                              go_meet
                              case rel => exact ⟨_, ((t700 != t665)), vE, H', ⟨by have := HJ10.out; have := HJ40.out; omega⟩, ⟨by (with_reducible repeat (apply Kd.R_drewN)); exact Kd.R_mono HO_12.out (fun _ hk => trivial)⟩, ⟨by (with_reducible repeat (apply Kd.R_drewN)); exact Kd.R_mono HO_13.out (fun _ hk => trivial)⟩, ⟨bW⟩⟩
                            · replace c98 := Bool.eq_false_iff.mpr c98
                              subst c98
                              have H1 : (laws_FnExactMergeCommits.j2 kj40 t690 t692 t691 true) = some true := by rw [if_neg (show ¬ (false = true) by decide)] at H; exact H
                              clear H
                              have H := H1
                              clear H1
                              have H' := Aside0.mk H
                              clear H
                              obtain ⟨Ao104, co104, eo104⟩ := Kd.R_slice HO702.out
                              subst eo104
                              obtain ⟨Ao105, co105, eo105⟩ := Kd.R_slice HO_8.out
                              subst eo105
                              go_wp2_with (first | ((with_reducible refine gate_callee (f := 20) rfl ?_); refine goesL_ (some 117) rfl rfl Tryz.func20 (by kernel_rfl) rfl #[.slice Ao104 t698.length co104, .slice Ao105 t663.length co105] rfl gA ?_; (with_reducible refine (laws_eqEntryS.calls kj40 _ _ t698 _ _ t663 true _ ?side1 ?side2 ?side3 ?side4 A95.out).mono ?_); (case side1 => repeat (exact (Kd.R_reads' HO702.out).2.2)); (case side2 => exact (Kd.R_reads' HO702.out).2.1); (case side3 => repeat (exact (Kd.R_reads' HO_8.out).2.2)); (case side4 => exact (Kd.R_reads' HO_8.out).2.1); rintro e w106 ⟨rfl, hb⟩; refine ⟨_, rfl, ?_⟩; have n0_ := Aside0.mk (Kd.R_below (pR HO_8) hb); have n1_ := Aside0.mk (Kd.R_below (pR HO_9) hb); have n2_ := Aside0.mk (Kd.R_below (pR HO_12) hb); have n3_ := Aside0.mk (Kd.R_below (pR HO_13) hb); have n4_ := Aside0.mk (Kd.S_below (pS HO697) hb); have n5_ := Aside0.mk (Kd.R_below (pR HO702) hb); have n6_ := Aside0.mk (Kd.R_below (pR HO704) hb); have n7_ := Aside0.mk (below_step (w := w) bW hb); clear HO_8; clear HO_9; clear HO_12; clear HO_13; clear HO697; clear HO702; clear HO704; clear HB; have HO_8 := n0_; have HO_9 := n1_; have HO_12 := n2_; have HO_13 := n3_; have HO697 := n4_; have HO702 := n5_; have HO704 := n6_; have HB := n7_; clear n0_ n1_ n2_ n3_ n4_ n5_ n6_ n7_; (try clear hb); obtain ⟨Ao107, co107, eo107⟩ := Kd.R_slice HO704.out; subst eo107; obtain ⟨Ao108, co108, eo108⟩ := Kd.R_slice HO_9.out; subst eo108) | (go_at_call 21; (with_reducible refine (laws_eqStringS.calls kj40 _ _ t699 _ _ t664 false _ ?side1 ?side2 ?side3 ?side4 A97.out).mono ?_); (case side1 => repeat (exact (Kd.R_reads' HO704.out).2.2)); (case side2 => exact (Kd.R_reads' HO704.out).2.1); (case side3 => repeat (exact (Kd.R_reads' HO_9.out).2.2)); (case side4 => exact (Kd.R_reads' HO_9.out).2.1); rintro e w' ⟨rfl, ⟨nd, rfl⟩⟩))
                              go_meet
                              case rel => exact ⟨_, (true), vE, H', ⟨by have := HJ10.out; have := HJ40.out; omega⟩, ⟨by (with_reducible repeat (apply Kd.R_drewN)); exact Kd.R_mono HO_12.out (fun _ hk => trivial)⟩, ⟨by (with_reducible repeat (apply Kd.R_drewN)); exact Kd.R_mono HO_13.out (fun _ hk => trivial)⟩, ⟨bW⟩⟩
                          · replace c96 := Bool.eq_false_iff.mpr c96
                            subst c96
                            have H1 : (laws_FnExactMergeCommits.j2 kj40 t690 t692 t691 true) = some true := by rw [if_neg (show ¬ (false = true) by decide)] at H; exact H
                            clear H
                            have H := H1
                            clear H1
                            have H' := Aside0.mk H
                            clear H
                            obtain ⟨Ao109, co109, eo109⟩ := Kd.R_slice HO702.out
                            subst eo109
                            obtain ⟨Ao110, co110, eo110⟩ := Kd.R_slice HO_8.out
                            subst eo110
                            go_wp2_with (((with_reducible refine gate_callee (f := 20) rfl ?_); refine goesL_ (some 117) rfl rfl Tryz.func20 (by kernel_rfl) rfl #[.slice Ao109 t698.length co109, .slice Ao110 t663.length co110] rfl gA ?_; (with_reducible refine (laws_eqEntryS.calls kj40 _ _ t698 _ _ t663 false _ ?side1 ?side2 ?side3 ?side4 A95.out).mono ?_); (case side1 => repeat (exact (Kd.R_reads' HO702.out).2.2)); (case side2 => exact (Kd.R_reads' HO702.out).2.1); (case side3 => repeat (exact (Kd.R_reads' HO_8.out).2.2)); (case side4 => exact (Kd.R_reads' HO_8.out).2.1); rintro e w111 ⟨rfl, hb⟩; refine ⟨_, rfl, ?_⟩; have n0_ := Aside0.mk (Kd.R_below (pR HO_8) hb); have n1_ := Aside0.mk (Kd.R_below (pR HO_9) hb); have n2_ := Aside0.mk (Kd.R_below (pR HO_12) hb); have n3_ := Aside0.mk (Kd.R_below (pR HO_13) hb); have n4_ := Aside0.mk (Kd.S_below (pS HO697) hb); have n5_ := Aside0.mk (Kd.R_below (pR HO702) hb); have n6_ := Aside0.mk (Kd.R_below (pR HO704) hb); have n7_ := Aside0.mk (below_step (w := w) bW hb); clear HO_8; clear HO_9; clear HO_12; clear HO_13; clear HO697; clear HO702; clear HO704; clear HB; have HO_8 := n0_; have HO_9 := n1_; have HO_12 := n2_; have HO_13 := n3_; have HO697 := n4_; have HO702 := n5_; have HO704 := n6_; have HB := n7_; clear n0_ n1_ n2_ n3_ n4_ n5_ n6_ n7_; (try clear hb)))
                            go_meet
                            case rel => exact ⟨_, (true), vE, H', ⟨by have := HJ10.out; have := HJ40.out; omega⟩, ⟨by exact Kd.R_mono HO_12.out (fun _ hk => trivial)⟩, ⟨by exact Kd.R_mono HO_13.out (fun _ hk => trivial)⟩, ⟨bW⟩⟩
                        case rest =>
                          clear HC85
                          try clear c68b0
                          try clear c75b0
                          try clear c82b0
                          try clear c82b1
                          obtain ⟨kq, x129_84, rfl, HA, HJ84, HO_12, HO_13, HB⟩ := hcut
                          have hl12_84 := (Kd.R_reads' HO_12.out).1
                          rw [hl12_84] at HO_12
                          (try simp only [hl12_84])
                          have hl13_84 := (Kd.R_reads' HO_13.out).1
                          rw [hl13_84] at HO_13
                          (try simp only [hl13_84])
                          cases kq with
                          | zero => exact absurd HA.out (by simp [laws_FnExactMergeCommits.j2])
                          | succ kj84 =>
                            have H := HA.out
                            clear HA
                            simp only [laws_FnExactMergeCommits.j2] at H
                            by_cases c112 : x129_84 = true
                            · subst c112
                              have H1 : (some false) = some true := by rw [if_pos rfl] at H; exact H
                              exact absurd H1 (by simp)
                            · replace c112 := Bool.eq_false_iff.mpr c112
                              subst c112
                              have H1 : ((laws_heldEntryS.f kj84 t690 1).bind fun t707 => (if t707 < 0 then (some false) else ((laws_heldStringS.f kj84 t692 t707).bind fun t708 => (if t708 < 0 then (some false) else (if t708 = t691 then (some true) else (some false)))))) = some true := by rw [if_neg (show ¬ (false = true) by decide)] at H; exact H
                              clear H
                              have H := H1
                              clear H1
                              replace H := Option.bind_eq_some_iff.mp H
                              obtain ⟨t707, A1130, H⟩ := H
                              replace H : (if t707 < 0 then (some false) else ((laws_heldStringS.f kj84 t692 t707).bind fun t708 => (if t708 < 0 then (some false) else (if t708 = t691 then (some true) else (some false))))) = some true := H
                              have A113 := Aside0.mk A1130
                              clear A1130
                              by_cases c114 : t707 < 0
                              · rw [if_pos c114] at H
                                exact absurd H (by simp)
                              · rw [if_neg c114] at H
                                have c114b0 : decide (t707 < 0) = false := decide_eq_false c114
                                clear c114
                                replace H := Option.bind_eq_some_iff.mp H
                                obtain ⟨t708, A1160, H⟩ := H
                                replace H : (if t708 < 0 then (some false) else (if t708 = t691 then (some true) else (some false))) = some true := H
                                have A116 := Aside0.mk A1160
                                clear A1160
                                by_cases c117 : t708 < 0
                                · rw [if_pos c117] at H
                                  exact absurd H (by simp)
                                · rw [if_neg c117] at H
                                  have c117b0 : decide (t708 < 0) = false := decide_eq_false c117
                                  clear c117
                                  by_cases c120 : t708 = t691
                                  · rw [if_pos c120] at H
                                    have c120b0 : (t708 == t691) = true := beq_iff_eq.mpr c120
                                    have c120b1 : (t708 != t691) = false := bne_eq_false_iff_eq.mpr c120
                                    clear c120
                                    clear H
                                    go_wp2_with (first | ((with_reducible refine gate_callee (f := 26) rfl ?_); refine goesL_ (some 132) rfl rfl Tryz.func26 (by kernel_rfl) rfl #[.slice Ao86 t690.length co86, .int .i64 1] rfl gA ?_; (with_reducible refine (laws_heldEntryS.calls kj84 _ _ t690 1 t707 _ ?side1 ?side2 A113.out).mono ?_); (case side1 => repeat (exact (Kd.R_reads' HO_12.out).2.2)); (case side2 => exact (Kd.R_reads' HO_12.out).2.1); rintro e w121 ⟨rfl, hb⟩; refine ⟨_, rfl, ?_⟩; have n0_ := Aside0.mk (Kd.R_below (pR HO_12) hb); have n1_ := Aside0.mk (Kd.R_below (pR HO_13) hb); have n2_ := Aside0.mk (below_step (w := w) bW hb); clear HO_12; clear HO_13; clear HB; have HO_12 := n0_; have HO_13 := n1_; have HB := n2_; clear n0_ n1_ n2_; (try clear hb)) | ((with_reducible refine gate_callee (f := 27) rfl ?_); refine goesL_ (some 137) rfl rfl Tryz.func27 (by kernel_rfl) rfl #[.slice Ao88 t692.length co88, .int .i64 t707] rfl gA ?_; (with_reducible refine (laws_heldStringS.calls kj84 _ _ t692 t707 t708 _ ?side1 ?side2 A116.out).mono ?_); (case side1 => repeat (exact (Kd.R_reads' HO_13.out).2.2)); (case side2 => exact (Kd.R_reads' HO_13.out).2.1); rintro e w122 ⟨rfl, hb⟩; refine ⟨_, rfl, ?_⟩; have n0_ := Aside0.mk (Kd.R_below (pR HO_12) hb); have n1_ := Aside0.mk (Kd.R_below (pR HO_13) hb); have n2_ := Aside0.mk (below_step (w := w) bW hb); clear HO_12; clear HO_13; clear HB; have HO_12 := n0_; have HO_13 := n1_; have HB := n2_; clear n0_ n1_ n2_; (try clear hb)))
                                    go_ret
                                    exact ⟨rE, bW⟩
                                  · rw [if_neg c120] at H
                                    exact absurd H (by simp)
                      · rw [if_neg c82] at H
                        exact absurd H (by simp)
          · replace c39 := Bool.eq_false_iff.mpr c39
            subst c39
            have H1 : (some false) = some true := by rw [if_neg (show ¬ (false = true) by decide)] at H; exact H
            exact absurd H1 (by simp)
end Go.Proofs.YtblejbgkcgajgaaGreat.Q
end

section
namespace Go.Proofs.YtblejbgkcgajgaaGreat.Q
open Go.RowKit Go.Proofs.YtblejbgkcgajgaaGreatW.PrintWords Go.Proofs.YtblejbgkcgajgaaGreatW.PrintLast Go.Proofs.YtblejbgkcgajgaaGreatW.PrintMore
attribute [local go_sem] max2_int min2_int max_two min_two max_three min_three max_four min_four   -- for this text's walks alone
set_option linter.unusedVariables false
set_option linter.unusedSimpArgs false
attribute [local go_sem] bin_leq bin_gtr bin_geq
def Opens {α : Type} (P : Program) (d : Kd α) (t : TypeId) (G : α → Prop) : Prop :=
  P.cellsOf t = d.sz ∧ ∀ {H : Type} (enc : TypeId × Value → H) (w : World) (base : Nat) (spare : Nat → Bool) (held : Bool) (fuel : Nat) (cs : List Value) (x : DataW H × List MemPlace),
    DataW.trod enc P w base spare held fuel t cs = some x → ∃ v, d.K w v cs ∧ G v
theorem add_twice (a : Addr) (m i : Nat) : (a.add m).add i = a.add (m + i) := by
  unfold Addr.add
  by_cases h1 : m = 0 <;> by_cases h2 : i = 0 <;> simp_all [Nat.add_assoc]
theorem opens_int {P : Program} {t : TypeId} {k : IntKind} (ht : P.underlying t = some (.int k)) (hc : P.cellsOf t = 1) : Opens P (Kd.int k) t (fun n => (Lit.int k n).wf = true) := by
  refine ⟨hc, fun enc w base spare held fuel cs x h => ?_⟩
  cases fuel with
  | zero => simp [DataW.trod] at h
  | succ n =>
    unfold DataW.trod at h
    rw [ht] at h
    split at h <;> simp_all
    obtain ⟨⟨rfl, h1⟩, _⟩ := h
    exact ⟨_, rfl, h1⟩
theorem opens_string {P : Program} {t : TypeId} (ht : P.underlying t = some .string) (hc : P.cellsOf t = 1) : Opens P Kd.string t (fun s => s.size ≤ 9223372036854775807) := by
  refine ⟨hc, fun enc w base spare held fuel cs x h => ?_⟩
  cases fuel with
  | zero => simp [DataW.trod] at h
  | succ n =>
    unfold DataW.trod at h
    rw [ht] at h
    split at h <;> simp_all
    exact ⟨_, rfl, h.1⟩
theorem list_of {α : Type} {Q : Nat → α → Prop} : ∀ n, (∀ i, i < n → ∃ v, Q i v) → ∃ l : List α, l.length = n ∧ ∀ i v, l[i]? = some v → Q i v
  | 0, _ => ⟨[], rfl, fun i v h => by simp at h⟩
  | n + 1, h => by
    obtain ⟨l, hl, hq⟩ := list_of n (fun i hi => h i (by omega))
    obtain ⟨v, hv⟩ := h n (by omega)
    refine ⟨l ++ [v], by simp [hl], fun i u hu => ?_⟩
    by_cases hi : i < l.length
    · rw [List.getElem?_append_left hi] at hu
      exact hq i u hu
    · have hi2 : i = l.length := by
        have := (List.getElem?_eq_some_iff.1 hu).1
        rw [List.length_append, List.length_singleton] at this
        omega
      subst hi2
      have hu' : v = u := by simpa using hu
      subst hu'
      rw [hl]
      exact hv
theorem opens_slice {α : Type} {P : Program} {d : Kd α} {t e : TypeId} {G : α → Prop} (ht : P.underlying t = some (.slice e)) (hc : P.cellsOf t = 1) (O : Opens P d e G) :
    Opens P (Kd.slice e d) t (fun l => l.length ≤ 9223372036854775807 ∧ ∀ x, x ∈ l → G x) := by
  refine ⟨hc, fun enc w base spare held fuel cs x h => ?_⟩
  rcases DataW.trod_slice ht h with ⟨rfl, _⟩ | ⟨a, len, cap, elems, rest, n, _, rfl, _, hb, hl, hm, hlen, hel, _, _⟩
  · exact ⟨[], ⟨none, 0, rfl, Nat.le_refl _, Kd.C_nil d w⟩, by simp, fun x hx => by simp at hx⟩
  · have each : ∀ i, i < len → ∃ v : α, (∃ c, c.length = d.sz ∧ d.K w v c ∧ ∀ j u, c[j]? = some u → w.cell? (a.add (i * d.sz + j)) = some u) ∧ G v := by
      intro i hi
      have h1 := hel i hi
      have h2 : elems[i]? = some (elems[i]'(by omega)) := List.getElem?_eq_getElem (by omega)
      rw [h2, Option.bind_eq_some_iff] at h1
      obtain ⟨c, hcc, htr⟩ := h1
      obtain ⟨v, hK, hG⟩ := O.2 enc w base spare held n c _ htr
      obtain ⟨_, hcl, hcells⟩ := World.cells?_some hcc
      refine ⟨v, ⟨c, d.K_len hK, hK, fun j u hu => ?_⟩, hG⟩
      have hj : j < c.length := (List.getElem?_eq_some_iff.1 hu).1
      have := hcells j (by omega)
      rw [hu, add_twice, O.1] at this
      exact this
    obtain ⟨l, hll, hq⟩ := list_of len each
    refine ⟨l, ⟨some a, cap, by rw [hll], by omega, hll ▸ ?_⟩, by unfold maxLen at hm; omega, fun x hx => ?_⟩
    · refine ⟨hll, by unfold maxLen at hm; omega, fun hp => ⟨a, rfl, fun j p hj => ?_⟩⟩
      obtain ⟨c, h1, h2, h3⟩ := (hq j p hj).1
      exact ⟨c, h1, h2, h3⟩
    · obtain ⟨i, hi, rfl⟩ := List.mem_iff_getElem.mp hx
      exact (hq i _ (List.getElem?_eq_getElem hi)).2
theorem open_row {α : Type} {P : Program} {d : Kd α} {t e : TypeId} {G : List α → Prop} (O : Opens P (Kd.slice e d) t G) {H : Type} {enc : TypeId × Value → H} {w : World} {base : Nat} {spare : Nat → Bool} {held : Bool} {a : Option Addr} {len cap : Nat} {x : DataW H} {ps : List MemPlace}
    (h : DataW.Trod enc P w base spare held t (.slice a len cap) x ps) : ∃ l, len = l.length ∧ l.length ≤ cap ∧ Kd.C d w a l.length l ∧ G l := by
  obtain ⟨fuel, hf⟩ := h
  obtain ⟨l, ⟨A, c, he, hl, hC⟩, hG⟩ := O.2 enc w base spare held fuel _ _ hf
  simp only [Value.cells] at he
  have he2 : Value.slice a len cap = Value.slice A l.length c := by simpa using he
  injection he2 with h1 h2 h3
  subst h1 h2 h3
  exact ⟨l, rfl, hl, hC, hG⟩
end Go.Proofs.YtblejbgkcgajgaaGreat.Q
end

section
namespace Go.Proofs.YtblejbgkcgajgaaGreat.Q
open Go.RowKit Go.Proofs.YtblejbgkcgajgaaGreatW.PrintWords Go.Proofs.YtblejbgkcgajgaaGreatW.PrintLast Go.Proofs.YtblejbgkcgajgaaGreatW.PrintMore
attribute [local go_sem] max2_int min2_int max_two min_two max_three min_three max_four min_four   -- for this text's walks alone
set_option linter.unusedVariables false
set_option linter.unusedSimpArgs false
attribute [local go_sem] bin_leq bin_gtr bin_geq
def good127 (x : S127) : Prop := (fun s => s.size ≤ 9223372036854775807) x.f0 ∧ (fun n => (Lit.int .i64 n).wf = true) x.f1
set_option maxRecDepth 100000 in
theorem opens_127 : Opens Tryz.prog k127 127 good127 := by
  refine ⟨by kernel_rfl, fun enc w base spare held fuel cs x h => ?_⟩
  obtain ⟨xs, n, _, _, hcl, hxl, hf⟩ := DataW.trod_struct Tryz.underlying127 h
  have hcl2 : cs.length = 2 := hcl.trans (by kernel_rfl)
  obtain ⟨c0, c1, rfl⟩ : ∃ c0 c1, cs = [c0, c1] := by
    match cs, hcl2 with
    | [c0, c1], _ => exact ⟨c0, c1, rfl⟩
  have h0 := hf 0 _ rfl
  rw [List.getElem?_eq_getElem (show 0 < xs.length by rw [hxl]; decide)] at h0
  obtain ⟨v0, K0, G0⟩ := (opens_string Tryz.underlying9 (by kernel_rfl)).2 enc w base spare held n [c0] _ ((show DataW.trod enc Tryz.prog w base spare held n 9 [c0] = _ from (by first | exact h0 | (rw [show Tryz.prog.cellsOf 9 = 1 by kernel_rfl] at h0; exact h0))))
  have h1 := hf 1 _ rfl
  rw [List.getElem?_eq_getElem (show 1 < xs.length by rw [hxl]; decide)] at h1
  obtain ⟨v1, K1, G1⟩ := (opens_int (k := .i64) Tryz.underlying3 (by kernel_rfl)).2 enc w base spare held n [c1] _ ((show DataW.trod enc Tryz.prog w base spare held n 3 [c1] = _ from (by first | exact h1 | (rw [show Tryz.prog.cellsOf 3 = 1 by kernel_rfl] at h1; exact h1))))
  exact ⟨⟨v0, v1⟩, ⟨[c0], [c1], rfl, K0, K1⟩, ⟨G0, G1⟩⟩
end Go.Proofs.YtblejbgkcgajgaaGreat.Q
end

section
namespace Go.Proofs.YtblejbgkcgajgaaGreat.Q
open Go.RowKit Go.Proofs.YtblejbgkcgajgaaGreatW.PrintWords Go.Proofs.YtblejbgkcgajgaaGreatW.PrintLast Go.Proofs.YtblejbgkcgajgaaGreatW.PrintMore
attribute [local go_sem] max2_int min2_int max_two min_two max_three min_three max_four min_four   -- for this text's walks alone
set_option linter.unusedVariables false
set_option linter.unusedSimpArgs false
attribute [local go_sem] bin_leq bin_gtr bin_geq
def good75 (x : S75) : Prop := (fun l => l.length ≤ 9223372036854775807 ∧ ∀ x, x ∈ l → (fun n => (Lit.int .i64 n).wf = true) x) x.f0 ∧ (fun l => l.length ≤ 9223372036854775807 ∧ ∀ x, x ∈ l → good127 x) x.f1
set_option maxRecDepth 100000 in
theorem opens_75 : Opens Tryz.prog k75 75 good75 := by
  refine ⟨by kernel_rfl, fun enc w base spare held fuel cs x h => ?_⟩
  obtain ⟨xs, n, _, _, hcl, hxl, hf⟩ := DataW.trod_struct Tryz.underlying75 h
  have hcl2 : cs.length = 2 := hcl.trans (by kernel_rfl)
  obtain ⟨c0, c1, rfl⟩ : ∃ c0 c1, cs = [c0, c1] := by
    match cs, hcl2 with
    | [c0, c1], _ => exact ⟨c0, c1, rfl⟩
  have h0 := hf 0 _ rfl
  rw [List.getElem?_eq_getElem (show 0 < xs.length by rw [hxl]; decide)] at h0
  obtain ⟨v0, K0, G0⟩ := (opens_slice Tryz.underlying62 (by kernel_rfl) (opens_int (k := .i64) Tryz.underlying3 (by kernel_rfl))).2 enc w base spare held n [c0] _ ((show DataW.trod enc Tryz.prog w base spare held n 62 [c0] = _ from (by first | exact h0 | (rw [show Tryz.prog.cellsOf 62 = 1 by kernel_rfl] at h0; exact h0))))
  have h1 := hf 1 _ rfl
  rw [List.getElem?_eq_getElem (show 1 < xs.length by rw [hxl]; decide)] at h1
  obtain ⟨v1, K1, G1⟩ := (opens_slice Tryz.underlying73 (by kernel_rfl) opens_127).2 enc w base spare held n [c1] _ ((show DataW.trod enc Tryz.prog w base spare held n 73 [c1] = _ from (by first | exact h1 | (rw [show Tryz.prog.cellsOf 73 = 1 by kernel_rfl] at h1; exact h1))))
  exact ⟨⟨v0, v1⟩, ⟨[c0], [c1], rfl, K0, K1⟩, ⟨G0, G1⟩⟩
end Go.Proofs.YtblejbgkcgajgaaGreat.Q
end

section
namespace Go.Proofs.YtblejbgkcgajgaaGreat.Q
open Go.RowKit Go.Proofs.YtblejbgkcgajgaaGreatW.PrintWords Go.Proofs.YtblejbgkcgajgaaGreatW.PrintLast Go.Proofs.YtblejbgkcgajgaaGreatW.PrintMore
attribute [local go_sem] max2_int min2_int max_two min_two max_three min_three max_four min_four   -- for this text's walks alone
set_option linter.unusedVariables false
set_option linter.unusedSimpArgs false
attribute [local go_sem] bin_leq bin_gtr bin_geq
def laws_FnExactMergeCommits.Pure : Prop := ∀ (l0 : List (S75)) (a1 : Int) (a2 : Int), (fun l => l.length ≤ 9223372036854775807 ∧ ∀ x, x ∈ l → good75 x) l0 → (Lit.int .i64 a1).wf = true → (Lit.int .i64 a2).wf = true → ∃ k, laws_FnExactMergeCommits.f k l0 a1 a2 = some true
theorem laws_FnExactMergeCommits.walk (P : laws_FnExactMergeCommits.Pure) (A0 : Option Addr) (c0 : Nat) (l0 : List (S75)) (a1 : Int) (a2 : Int) (w : World) (w0 : (fun l => l.length ≤ 9223372036854775807 ∧ ∀ x, x ∈ l → good75 x) l0) (w1 : (Lit.int .i64 a1).wf = true) (w2 : (Lit.int .i64 a2).wf = true) (hr0 : Kd.C k75 w A0 l0.length l0) (hc0 : l0.length ≤ c0) :
    Calls Tryz.prog 4 #[.slice A0 l0.length c0, .int .i64 a1, .int .i64 a2] w fun e w' => e = .returned (.bool true) ∧ Below w.heap.size w w' := by
  obtain ⟨k, hk⟩ := P l0 a1 a2 w0 w1 w2
  exact (laws_FnExactMergeCommits.calls k A0 c0 l0 a1 a2 w hr0 hc0 hk).mono fun e w' h => ⟨h.1, h.2⟩
end Go.Proofs.YtblejbgkcgajgaaGreat.Q
end

section
namespace Go.Proofs.YtblejbgkcgajgaaGreat.Q
open Go.RowKit Go.Proofs.YtblejbgkcgajgaaGreatW.PrintWords Go.Proofs.YtblejbgkcgajgaaGreatW.PrintLast
theorem isValue_f (n : Int) : impl_isValue.f n = some (inB n (-1000000) 1000000) := by
  unfold impl_isValue.f impl_within.f inB
  by_cases h : (-1000000 : Int) ≤ n <;> simp [h]
theorem mapOK_l0 (l : List S84) (hlen : l.length ≤ 4611686018427387904) (d : Nat) : ∀ i : Nat, i + d = l.length → (∀ j, j < i → entAt l j = true) → Ev (fun k => impl_MapOK.l0 k l l (l.length : Int) (i : Int)) (mapB l) := by
  induction d with
  | zero =>
    intro i hi hp
    have e : mapB l = decide ((l.length : Int) ≤ 12) := by
      unfold mapB
      rw [allR_true (fun j hj => hp j (by omega)), Bool.and_true]
      by_cases h : l.length ≤ 12
      · rw [decide_eq_true h, decide_eq_true (by omega)]
      · rw [decide_eq_false h, decide_eq_false (by omega)]
    rw [e]
    exact Ev.step (f := fun _ => some (decide ((l.length : Int) ≤ 12))) (fun k => by simp only [impl_MapOK.l0]; rw [if_neg (by omega)]) (Ev.now _)
  | succ d ih =>
    intro i hi hp
    have hw : wrap64 ((i : Int) + 1) = ((i + 1 : Nat) : Int) := by unfold wrap64; omega
    have hbad : entAt l i = false → mapB l = false := fun h => by
      unfold mapB
      rw [allR_false (j := i) (by omega) h, Bool.and_false]
    have hgo : entAt l i = true → Ev (fun k => impl_MapOK.l0 k l l (l.length : Int) ((i + 1 : Nat) : Int)) (mapB l) := fun h => ih (i + 1) (by omega) (fun j hj => by
      by_cases e : j = i
      · rw [e]; exact h
      · exact hp j (by omega))
    have E : entAt l i = (nameB (rd_T84 l (i : Int)).f0 && inB (rd_T84 l (i : Int)).f1 (-1000000) 1000000 && (i == 0 || sblt (rd_T84 l ((i : Int) - 1)).f0 (rd_T84 l (i : Int)).f0)) := rfl
    have c1 : (i : Int) < (l.length : Int) := by omega
    have c2 : (0 : Int) ≤ (i : Int) := by omega
    cases hN : nameB (rd_T84 l (i : Int)).f0 with
    | false =>
      rw [hbad (by rw [E, hN]; rfl)]
      refine Ev.step (f := fun _ => some false) (fun k => ?_) (Ev.now _)
      simp only [impl_MapOK.l0, impl_NameOK.f, hN, if_pos c1, if_pos c2, Option.bind_some, Bool.false_eq_true, if_false]
    | true =>
      cases hV : inB (rd_T84 l (i : Int)).f1 (-1000000) 1000000 with
      | false =>
        rw [hbad (by rw [E, hN, hV]; rfl)]
        refine Ev.step (f := fun _ => some false) (fun k => ?_) (Ev.now _)
        simp only [impl_MapOK.l0, impl_NameOK.f, isValue_f, hN, hV, if_pos c1, if_pos c2, Option.bind_some, Bool.false_eq_true, if_false, if_true]
      | true =>
        by_cases hz : i = 0
        · have hg := hgo (by rw [E, hN, hV]; simp [hz])
          refine Ev.step (fun k => ?_) hg
          have c3 : ¬ ((i : Int) > 0) := by omega
          simp only [impl_MapOK.l0, impl_NameOK.f, isValue_f, hN, hV, if_pos c1, if_pos c2, if_neg c3, Option.bind_some, if_true, hw]
        · have c3 : (i : Int) > 0 := by omega
          have hw2 : wrap64 ((i : Int) - 1) = (i : Int) - 1 := by unfold wrap64; omega
          have c4 : (0 : Int) ≤ (i : Int) - 1 := by omega
          have c5 : (i : Int) - 1 < (l.length : Int) := by omega
          have z : (i == 0) = false := by simp [hz]
          cases hS : sblt (rd_T84 l ((i : Int) - 1)).f0 (rd_T84 l (i : Int)).f0 with
          | false =>
            rw [hbad (by rw [E, hN, hV, hS, z]; rfl)]
            have hS1 : Op.bytesLess (rd_T84 l ((i : Int) - 1)).f0.toList (rd_T84 l (i : Int)).f0.toList = false := hS
            refine Ev.step (f := fun _ => some false) (fun k => ?_) (Ev.now _)
            simp only [impl_MapOK.l0, impl_NameOK.f, isValue_f, hN, hV, hS1, hw2, if_pos c1, if_pos c2, if_pos c3, if_pos c4, if_pos c5, Option.bind_some, if_true, Bool.false_eq_true, if_false]
          | true =>
            have hg := hgo (by rw [E, hN, hV, hS]; simp)
            have hS1 : Op.bytesLess (rd_T84 l ((i : Int) - 1)).f0.toList (rd_T84 l (i : Int)).f0.toList = true := hS
            refine Ev.step (fun k => ?_) hg
            simp only [impl_MapOK.l0, impl_NameOK.f, isValue_f, hN, hV, hS1, hw2, if_pos c1, if_pos c2, if_pos c3, if_pos c4, if_pos c5, Option.bind_some, if_true, hw]
theorem mapOK_ev (l : List S84) (hlen : l.length ≤ 4611686018427387904) : Ev (fun k => impl_MapOK.f k l) (mapB l) := mapOK_l0 l hlen l.length 0 (by omega) (fun j hj => absurd hj (Nat.not_lt_zero _))
end Go.Proofs.YtblejbgkcgajgaaGreat.Q
end

section
namespace Go.Proofs.YtblejbgkcgajgaaGreat.Q
open Go.RowKit Go.Proofs.YtblejbgkcgajgaaGreatW.PrintWords Go.Proofs.YtblejbgkcgajgaaGreatW.PrintLast
theorem l01In_is (a b c : Int) : spec_l01In.f a b c = some (inB a b c) := by
  unfold spec_l01In.f inB
  by_cases h : b ≤ a <;> simp [h]
end Go.Proofs.YtblejbgkcgajgaaGreat.Q
end

section
namespace Go.Proofs.YtblejbgkcgajgaaGreat.Q
open Go.RowKit Go.Proofs.YtblejbgkcgajgaaGreatW.PrintWords Go.Proofs.YtblejbgkcgajgaaGreatW.PrintLast Go.Proofs.YtblejbgkcgajgaaGreatW.PrintMore
attribute [local go_sem] max2_int min2_int max_two min_two max_three min_three max_four min_four   -- for this text's walks alone
set_option linter.unusedVariables false
set_option linter.unusedSimpArgs false
attribute [local go_sem] bin_leq bin_gtr bin_geq
theorem ev_map_loop {α β : Type} {L : Nat → List α → List β → Int → Option (List β)} {g : Nat → α → Option β} {cv : α → β} {z : α}
    (step : ∀ k xs acc i, L (k + 1) xs acc i = if i < (xs.length : Int) then (if 0 ≤ i then ((g k (xs.getD i.toNat z)).bind fun y => (if i < (acc.length : Int) then (L k xs (acc.set i.toNat y) (wrap64 (i + 1))) else none)) else none) else some acc)
    (xs : List α) (hlen : xs.length ≤ 4611686018427387904) (hg : ∀ x, x ∈ xs → Ev (fun k => g k x) (cv x)) (acc : List β) (ha : acc.length = xs.length) : Ev (fun k => L k xs acc 0) (xs.map cv) := by
  have key : ∀ d (i : Nat) (acc : List β), i + d = xs.length → acc.length = xs.length → Ev (fun k => L k xs acc (i : Int)) (acc.take i ++ (xs.drop i).map cv) := by
    intro d
    induction d with
    | zero =>
      intro i acc hi ha
      refine Ev.step (f := fun _ => some acc) (fun k => by rw [step, if_neg (by omega)]) ?_
      rw [List.take_of_length_le (by omega), List.drop_eq_nil_of_le (by omega)]
      simpa using Ev.now acc
    | succ d ih =>
      intro i acc hi ha
      have hl : i < xs.length := by omega
      have hw : wrap64 ((i : Int) + 1) = ((i + 1 : Nat) : Int) := by unfold wrap64; omega
      have hx : xs.getD ((i : Int).toNat) z = xs[i] := by simp [List.getD_eq_getElem?_getD, List.getElem?_eq_getElem hl]
      refine Ev.step (f := fun k => (g k xs[i]).bind fun y => L k xs (acc.set i y) ((i + 1 : Nat) : Int)) (fun k => ?_) ?_
      · rw [step, if_pos (by omega), if_pos (by omega), hx, hw]
        congr 1
        funext y
        rw [if_pos (by omega)]
        simp
      · have h2 := ih (i + 1) (acc.set i (cv xs[i])) (by omega) (by simpa using ha)
        have e : (acc.set i (cv xs[i])).take (i + 1) ++ (xs.drop (i + 1)).map cv = acc.take i ++ (xs.drop i).map cv := by
          rw [List.drop_eq_getElem_cons hl, List.map_cons, List.take_succ_eq_append_getElem (by simpa using (show i < acc.length by omega)), List.take_set_of_le (by omega)]
          simp
        rw [e] at h2
        exact Ev.bind (hg _ (List.getElem_mem hl)) h2
  have h := key xs.length 0 acc (by omega) ha
  simpa using h
theorem ev_refl_loop {α : Type} {L : Nat → List α → List α → Int → Option Bool} {g : Nat → α → α → Option Bool} {z : α}
    (step : ∀ k xs ys i, L (k + 1) xs ys i = if i < (xs.length : Int) then (if 0 ≤ i then (if i < (ys.length : Int) then ((g k (xs.getD i.toNat z) (ys.getD i.toNat z)).bind fun t => (if t = true then L k xs ys (wrap64 (i + 1)) else some false)) else none) else none) else some true)
    (xs : List α) (hlen : xs.length ≤ 4611686018427387904) (hg : ∀ x, x ∈ xs → Ev (fun k => g k x x) true) : Ev (fun k => L k xs xs 0) true := by
  have key : ∀ d (i : Nat), i + d = xs.length → Ev (fun k => L k xs xs (i : Int)) true := by
    intro d
    induction d with
    | zero =>
      intro i hi
      exact Ev.step (f := fun _ => some true) (fun k => by rw [step, if_neg (by omega)]) (Ev.now true)
    | succ d ih =>
      intro i hi
      have hl : i < xs.length := by omega
      have hw : wrap64 ((i : Int) + 1) = ((i + 1 : Nat) : Int) := by unfold wrap64; omega
      have hx : xs.getD ((i : Int).toNat) z = xs[i] := by simp [List.getD_eq_getElem?_getD, List.getElem?_eq_getElem hl]
      refine Ev.step (f := fun k => (g k xs[i] xs[i]).bind fun t => if t = true then L k xs xs ((i + 1 : Nat) : Int) else some false) (fun k => ?_) ?_
      · rw [step, if_pos (by omega), if_pos (by omega), if_pos (by omega), hx, hw]
      · refine Ev.bind (hg _ (List.getElem_mem hl)) ?_
        simp only [if_true]
        exact ih (i + 1) (by omega)
  exact key xs.length 0 (by omega)
theorem ev_sz_loop {α : Type} {L : Nat → List α → Int → Int → Option Int} {g : Nat → α → Int → Option Int} {z : α}
    (step : ∀ k xs left i, L (k + 1) xs left i = if i < (xs.length : Int) then (if 0 ≤ i then ((g k (xs.getD i.toNat z) left).bind fun t => (if t < 0 then some (-1) else L k xs t (wrap64 (i + 1)))) else none) else some left)
    (xs : List α) (hlen : xs.length ≤ 4611686018427387904) (hg : ∀ x, x ∈ xs → ∀ left : Int, 0 ≤ left → left ≤ 1048576 → ∃ r, Ev (fun k => g k x left) r ∧ r ≤ left) (left : Int) (h0 : 0 ≤ left) (h1 : left ≤ 1048576) :
    ∃ r, Ev (fun k => L k xs left 0) r ∧ r ≤ left := by
  have key : ∀ d (i : Nat) (left : Int), i + d = xs.length → 0 ≤ left → left ≤ 1048576 → ∃ r, Ev (fun k => L k xs left (i : Int)) r ∧ r ≤ left := by
    intro d
    induction d with
    | zero =>
      intro i left hi h0 h1
      exact ⟨left, Ev.step (f := fun _ => some left) (fun k => by rw [step, if_neg (by omega)]) (Ev.now left), by omega⟩
    | succ d ih =>
      intro i left hi h0 h1
      have hl : i < xs.length := by omega
      have hw : wrap64 ((i : Int) + 1) = ((i + 1 : Nat) : Int) := by unfold wrap64; omega
      have hx : xs.getD ((i : Int).toNat) z = xs[i] := by simp [List.getD_eq_getElem?_getD, List.getElem?_eq_getElem hl]
      obtain ⟨t, ht, htl⟩ := hg _ (List.getElem_mem hl) left h0 h1
      by_cases hn : t < 0
      · refine ⟨-1, Ev.step (f := fun k => (g k xs[i] left).bind fun t => if t < 0 then some (-1) else L k xs t ((i + 1 : Nat) : Int)) (fun k => ?_) (Ev.bind ht ?_), by omega⟩
        · rw [step, if_pos (by omega), if_pos (by omega), hx, hw]
        · simp only [hn, if_true]
          exact Ev.now _
      · obtain ⟨r, hr, hrl⟩ := ih (i + 1) t (by omega) (by omega) (by omega)
        refine ⟨r, Ev.step (f := fun k => (g k xs[i] left).bind fun t => if t < 0 then some (-1) else L k xs t ((i + 1 : Nat) : Int)) (fun k => ?_) (Ev.bind ht ?_), by omega⟩
        · rw [step, if_pos (by omega), if_pos (by omega), hx, hw]
        · simp only [hn, if_false]
          exact hr
  exact key xs.length 0 left (by omega) h0 h1
end Go.Proofs.YtblejbgkcgajgaaGreat.Q
end

section
namespace Go.Proofs.YtblejbgkcgajgaaGreat.Q
open Go.RowKit Go.Proofs.YtblejbgkcgajgaaGreatW.PrintWords Go.Proofs.YtblejbgkcgajgaaGreatW.PrintLast
set_option linter.unusedVariables false
theorem Ev.shift {α : Type} {g h : Nat → Option α} {r : α} {c d : Nat} (e : ∀ k, g (k + c) = h (k + d)) (k : Ev h r) : Ev g r := by
  obtain ⟨K, hK⟩ := k
  refine ⟨K + c, fun n hn => ?_⟩
  obtain ⟨m, rfl⟩ : ∃ m, n = m + c := ⟨n - c, by omega⟩
  rw [e]
  exact hK _ (by omega)
theorem Ev.at_ {α : Type} {g : Nat → Option α} {r : α} {c : Nat} (e : ∀ k, g (k + c) = some r) : Ev g r := by
  refine ⟨c, fun n hn => ?_⟩
  obtain ⟨m, rfl⟩ : ∃ m, n = m + c := ⟨n - c, by omega⟩
  exact e m
theorem Ev.succ {α : Type} {g : Nat → Option α} {r : α} (h : Ev (fun k => g (k + 1)) r) : Ev g r := Ev.step (fun _ => rfl) h
theorem ev_all_loop2 {L : Nat → Int → Option Bool} {n : Nat} {p : Nat → Bool} {fin : Bool} (m : Nat)
    (step : ∀ i : Nat, m ≤ i → i < n → (∀ j, j < i → p j = true) → p i = true → ∀ r, Ev (fun k => L k ((i + 1 : Nat) : Int)) r → Ev (fun k => L k (i : Int)) r)
    (stop : ∀ i : Nat, m ≤ i → i < n → (∀ j, j < i → p j = true) → p i = false → Ev (fun k => L k (i : Int)) false)
    (done : Ev (fun k => L k (n : Int)) fin) (hm : m ≤ n) (hpm : ∀ j, j < m → p j = true) : Ev (fun k => L k (m : Int)) (allR p n && fin) := by
  have key : ∀ d (i : Nat), m ≤ i → i + d = n → (∀ j, j < i → p j = true) → Ev (fun k => L k (i : Int)) (allR p n && fin) := by
    intro d
    induction d with
    | zero =>
      intro i _ hi hp
      obtain rfl : i = n := by omega
      rw [allR_true hp, Bool.true_and]
      exact done
    | succ d ih =>
      intro i hmi hi hp
      cases h : p i with
      | true =>
        refine step i hmi (by omega) hp h _ (ih (i + 1) (by omega) (by omega) (fun j hj => ?_))
        rcases Nat.lt_or_eq_of_le (Nat.le_of_lt_succ hj) with h1 | h1
        · exact hp j h1
        · rw [h1]; exact h
      | false =>
        rw [allR_false (by omega) h, Bool.false_and]
        exact stop i hmi (by omega) hp h
  exact key (n - m) m (Nat.le_refl _) (by omega) hpm
theorem ev_same_loop {α : Type} {L : Nat → Int → Option Bool} {xs ys : List α} (hl : xs.length = ys.length)
    (step : ∀ (i : Nat) (h1 : i < xs.length) (h2 : i < ys.length), xs[i] = ys[i] → ∀ k, L (k + 1) (i : Int) = L k ((i + 1 : Nat) : Int))
    (stop : ∀ (i : Nat) (h1 : i < xs.length) (h2 : i < ys.length), xs[i] ≠ ys[i] → ∀ k, L (k + 1) (i : Int) = some false)
    (done : ∀ k, L (k + 1) (xs.length : Int) = some true) : ∃ b, Ev (fun k => L k 0) b ∧ (b = true ↔ xs = ys) := by
  have key : ∀ d (i : Nat), i + d = xs.length → xs.take i = ys.take i → ∃ b, Ev (fun k => L k (i : Int)) b ∧ (b = true ↔ xs = ys) := by
    intro d
    induction d with
    | zero =>
      intro i hi hp
      obtain rfl : i = xs.length := by omega
      refine ⟨true, Ev.at_ (c := 1) done, fun _ => ?_, fun _ => rfl⟩
      rw [List.take_length, hl, List.take_length] at hp
      exact hp
    | succ d ih =>
      intro i hi hp
      have h1 : i < xs.length := by omega
      have h2 : i < ys.length := by omega
      rcases Classical.em (xs[i] = ys[i]) with h | h
      · obtain ⟨b, hb, hb2⟩ := ih (i + 1) (by omega) (by rw [List.take_succ_eq_append_getElem h1, List.take_succ_eq_append_getElem h2, hp, h])
        exact ⟨b, Ev.step (step i h1 h2 h) hb, hb2⟩
      · refine ⟨false, Ev.at_ (c := 1) (stop i h1 h2 h), by simp, fun e => absurd (by subst e; rfl) h⟩
  exact key xs.length 0 (by omega) (by simp)
theorem wrap_i {i : Nat} (h : i < 4611686018427387904) : wrap64 ((i : Int) + 1) = ((i + 1 : Nat) : Int) := by unfold wrap64; omega
theorem wrap_2 {i : Int} (h0 : -4611686018427387904 ≤ i) (h : i < 4611686018427387904) : wrap64 (i + 1) = i + 1 := by unfold wrap64; omega
end Go.Proofs.YtblejbgkcgajgaaGreat.Q
end

section
namespace Go.Proofs.YtblejbgkcgajgaaGreat.Q
open Go.RowKit Go.Proofs.YtblejbgkcgajgaaGreatW.PrintWords Go.Proofs.YtblejbgkcgajgaaGreatW.PrintLast
set_option linter.unusedVariables false
set_option linter.unusedSimpArgs false
theorem rdCommit {l : List S64} {i : Nat} (h : i < l.length) : rd_T64 l (i : Int) = l[i] := by
  simp [rd_T64, List.getD_eq_getElem?_getD, List.getElem?_eq_getElem h]
def commitB (n : Nat) (ps : List Int) (m : List S84) : Bool :=
  mapB m && match ps with
  | [] => n == 0
  | [a] => n != 0 && inB a 1 n
  | [a, b] => n != 0 && (inB a 1 n && (inB b 1 n && b != a))
  | _ => false
def storeB (l : List S64) : Bool := inB l.length 1 60 && allR (fun i => commitB i (rd_T64 l (i : Int)).f0 (rd_T64 l (i : Int)).f1) l.length
theorem nat_eq0 (n : Nat) : ((n : Int) == 0) = (n == 0) := by
  cases n with
  | zero => rfl
  | succ n =>
    have h1 : (((n + 1 : Nat) : Int) == 0) = false := by rw [beq_eq_false_iff_ne]; omega
    rw [h1]; rfl
theorem l03Commit_ev (st : List S64) (ps : List Int) (m : List S84) : Ev (fun k => spec_l03Commit.f k st ps m) (commitB st.length ps m) := by
  unfold commitB
  have w0 : wrap64 (0 + 1) = 1 := by unfold wrap64; omega
  have w1 : wrap64 (1 + 1) = 2 := by unfold wrap64; omega
  cases hm : mapB m with
  | false =>
    refine Ev.at_ (c := 1) (fun k => ?_)
    simp only [spec_l03Commit.f, spec_l01OK.f, Option.bind_some, hm, Bool.false_eq_true, if_false, spec_l03Commit.j0, if_true, Bool.false_and]
  | true =>
    match ps with
    | [] =>
      refine Ev.at_ (c := 2) (fun k => ?_)
      simp only [spec_l03Commit.f, spec_l01OK.f, Option.bind_some, hm, if_true, nat_eq0, List.length_nil, spec_l03Commit.j0, spec_l03Commit.l0]
      cases st.length == 0 <;> simp
    | [a] =>
      refine Ev.at_ (c := 4) (fun k => ?_)
      have r0 : rd [a] 0 = a := rfl
      simp only [spec_l03Commit.f, spec_l01OK.f, Option.bind_some, hm, if_true, nat_eq0, List.length_cons, List.length_nil, spec_l03Commit.j0, spec_l03Commit.l0, l01In_is, r0, w0, bne]
      cases st.length == 0 <;> cases inB a 1 st.length <;> simp
    | [a, b] =>
      refine Ev.at_ (c := 5) (fun k => ?_)
      have r0 : rd [a, b] 0 = a := rfl
      have r1 : rd [a, b] 1 = b := rfl
      simp only [spec_l03Commit.f, spec_l01OK.f, Option.bind_some, hm, if_true, nat_eq0, List.length_cons, List.length_nil, spec_l03Commit.j0, spec_l03Commit.l0, l01In_is, r0, r1, w0, w1, bne]
      by_cases hab : b = a
      · cases st.length == 0 <;> cases inB a 1 st.length <;> cases inB b 1 st.length <;> simp [hab]
      · cases st.length == 0 <;> cases inB a 1 st.length <;> cases inB b 1 st.length <;> simp [hab]
    | a :: b :: c :: r =>
      refine Ev.at_ (c := 1) (fun k => ?_)
      have h3 : (((a :: b :: c :: r).length : Nat) : Int) > 2 := by simp only [List.length_cons]; omega
      simp only [spec_l03Commit.f, spec_l01OK.f, Option.bind_some, hm, if_true, h3, spec_l03Commit.j0, Bool.and_false]
theorem isAt_ev (n : Nat) (hn : n ≤ 1048576) (ps : List Int) (m : List S84) (hm : m.length ≤ 1048576) : Ev (fun k => impl_Commit_isAt.f k ps m ((n : Int) + 1)) (commitB n ps m) := by
  unfold impl_Commit_isAt.f commitB
  refine Ev.bind (mapOK_ev m (by omega)) ?_
  have e1 : ((n : Int) + 1 == 1) = (n == 0) := by
    cases n with
    | zero => rfl
    | succ n =>
      have h1 : (((n + 1 : Nat) : Int) + 1 == 1) = false := by rw [beq_eq_false_iff_ne]; omega
      rw [h1]; rfl
  have l1 : (-9223372036854775807 : Int) ≤ (n : Int) + 1 := by omega
  have l2 : (n : Int) + 1 ≤ 9223372036854775807 := by omega
  have l3 : (n : Int) + 1 - 1 = (n : Int) := by omega
  cases mapB m with
  | false => simp only [Bool.false_eq_true, if_false, Bool.false_and]; exact Ev.now _
  | true =>
    simp only [if_true, Bool.true_and, areAllint_isAt.f, l1, l2, l3, e1]
    match ps with
    | [] =>
      refine Ev.at_ (c := 0) (fun k => ?_)
      cases hz : n == 0 <;> simp [hz]
    | [a] =>
      refine Ev.at_ (c := 0) (fun k => ?_)
      cases hz : n == 0 <;> cases h1 : inB a 1 n <;> simp [hz, h1, bne]
    | [a, b] =>
      refine Ev.at_ (c := 0) (fun k => ?_)
      have r0 : rd [a, b] 0 = a := rfl
      have r1 : rd [a, b] 1 = b := rfl
      by_cases hab : a = b
      · subst hab
        cases hz : n == 0 <;> simp [hz, r0, r1, bne]
      · have hba : ¬ b = a := fun h => hab h.symm
        cases hz : n == 0 <;> cases h1 : inB a 1 n <;> cases h2 : inB b 1 n <;> simp [hz, r0, r1, hab, hba, h1, h2, bne]
    | a :: b :: c :: r =>
      have h3 : (((a :: b :: c :: r).length : Nat) : Int) > 2 := by simp only [List.length_cons]; omega
      simp only [h3, if_true]
      exact Ev.now _
theorem l03OK_ev (l : List S64) : Ev (fun k => spec_l03OK.f k l) (storeB l) := by
  unfold spec_l03OK.f storeB
  simp only [l01In_is, Option.bind_some]
  cases hn : inB l.length 1 60 with
  | false => simp only [Bool.false_eq_true, if_false, Bool.false_and]; exact Ev.now _
  | true =>
    have h60 : l.length ≤ 60 := by
      unfold inB at hn
      simp only [Bool.and_eq_true, decide_eq_true_eq] at hn
      omega
    simp only [if_true, Bool.true_and]
    have h := ev_all_loop2 (L := fun k i => spec_l03OK.l0 k l i) (n := l.length) (p := fun i => commitB i (rd_T64 l (i : Int)).f0 (rd_T64 l (i : Int)).f1) (fin := true) 0 (fun i _ hi _ hp r hr => by
      have c1 : (i : Int) < (l.length : Int) := by omega
      have c2 : (i : Int) ≤ (l.length : Int) := by omega
      have hc := l03Commit_ev (l.take i) (rd_T64 l (i : Int)).f0 (rd_T64 l (i : Int)).f1
      rw [List.length_take, Nat.min_eq_left (by omega), hp] at hc
      refine Ev.succ (g := fun k => spec_l03OK.l0 k l (i : Int)) ?_
      simp only [spec_l03OK.l0, c1, c2, Int.natCast_nonneg, if_true, Int.toNat_natCast, wrap_i (show i < 4611686018427387904 by omega)]
      refine Ev.bind hc ?_
      simp only [if_true]
      exact hr) (fun i _ hi _ hp => by
      have c1 : (i : Int) < (l.length : Int) := by omega
      have c2 : (i : Int) ≤ (l.length : Int) := by omega
      have hc := l03Commit_ev (l.take i) (rd_T64 l (i : Int)).f0 (rd_T64 l (i : Int)).f1
      rw [List.length_take, Nat.min_eq_left (by omega), hp] at hc
      refine Ev.succ (g := fun k => spec_l03OK.l0 k l (i : Int)) ?_
      simp only [spec_l03OK.l0, c1, c2, Int.natCast_nonneg, if_true, Int.toNat_natCast]
      refine Ev.bind hc ?_
      simp only [Bool.false_eq_true, if_false]
      exact Ev.now _) (Ev.at_ (c := 1) (fun k => by
      simp only [spec_l03OK.l0]
      rw [if_neg (by omega)])) (Nat.zero_le _) (fun j hj => absurd hj (Nat.not_lt_zero _))
    rw [Bool.and_true] at h
    exact h
theorem areCommits_ev (l : List S64) (hl : l.length ≤ 1048576) (hf : ∀ x, x ∈ l → x.f1.length ≤ 1048576) : Ev (fun k => impl_areCommits.f k l) (allR (fun i => commitB i (rd_T64 l (i : Int)).f0 (rd_T64 l (i : Int)).f1) l.length && decide ((l.length : Int) ≤ 60)) := by
  exact ev_all_loop2 (L := fun k i => impl_areCommits.l0 k l l (l.length : Int) i) (n := l.length) (p := fun i => commitB i (rd_T64 l (i : Int)).f0 (rd_T64 l (i : Int)).f1) 0 (fun i _ hi _ hp r hr => by
    have c1 : (i : Int) < (l.length : Int) := by omega
    have w := wrap_2 (i := (i : Int)) (by omega) (by omega)
    have hc := isAt_ev i (by omega) (rd_T64 l (i : Int)).f0 (rd_T64 l (i : Int)).f1 (by rw [rdCommit hi]; exact hf _ (List.getElem_mem hi))
    rw [hp] at hc
    refine Ev.succ (g := fun k => impl_areCommits.l0 k l l (l.length : Int) (i : Int)) ?_
    simp only [impl_areCommits.l0, c1, Int.natCast_nonneg, if_true, w]
    refine Ev.bind hc ?_
    simp only [if_true]
    exact hr) (fun i _ hi _ hp => by
    have c1 : (i : Int) < (l.length : Int) := by omega
    have w := wrap_2 (i := (i : Int)) (by omega) (by omega)
    have hc := isAt_ev i (by omega) (rd_T64 l (i : Int)).f0 (rd_T64 l (i : Int)).f1 (by rw [rdCommit hi]; exact hf _ (List.getElem_mem hi))
    rw [hp] at hc
    refine Ev.succ (g := fun k => impl_areCommits.l0 k l l (l.length : Int) (i : Int)) ?_
    simp only [impl_areCommits.l0, c1, Int.natCast_nonneg, if_true, w]
    refine Ev.bind hc ?_
    simp only [Bool.false_eq_true, if_false]
    exact Ev.now _) (Ev.at_ (c := 1) (fun k => by
    simp only [impl_areCommits.l0]
    rw [if_neg (by omega)])) (Nat.zero_le _) (fun j hj => absurd hj (Nat.not_lt_zero _))
theorem storeOK_ev (l : List S64) (hl : l.length ≤ 1048576) (hf : ∀ x, x ∈ l → x.f1.length ≤ 1048576) : Ev (fun k => impl_StoreOK.f k l) (storeB l) := by
  unfold impl_StoreOK.f storeB
  by_cases h0 : (l.length : Int) > 0
  · have hi : inB l.length 1 60 = decide ((l.length : Int) ≤ 60) := by
      unfold inB
      rw [decide_eq_true (by omega), Bool.true_and]
    simp only [h0, if_true, impl_Commit.f, Option.bind_some]
    by_cases h4 : (l.length : Int) ≤ 4096
    · simp only [h4, decide_true, if_true]
      rw [hi, Bool.and_comm]
      exact Ev.bind (areCommits_ev l hl hf) (Ev.now _)
    · simp only [h4, decide_false, Bool.false_eq_true, if_false]
      rw [hi, decide_eq_false (by omega), Bool.false_and]
      exact Ev.now _
  · have hi : inB l.length 1 60 = false := by
      unfold inB
      rw [decide_eq_false (by omega), Bool.false_and]
    simp only [h0, if_false, hi, Bool.false_and]
    exact Ev.now _
end Go.Proofs.YtblejbgkcgajgaaGreat.Q
end

section
namespace Go.Proofs.YtblejbgkcgajgaaGreat.Q
open Go.RowKit Go.Proofs.YtblejbgkcgajgaaGreatW.PrintWords Go.Proofs.YtblejbgkcgajgaaGreatW.PrintLast
set_option linter.unusedVariables false
set_option linter.unusedSimpArgs false
def markP (out : List Bool) (ps : List Int) : List Bool := ps.foldl (fun o p => o.set p.toNat true) out
def reachG (st : List S64) : Nat → List Bool → List Bool
  | 0, out => out
  | i + 1, out => reachG st i (if out.getD (i + 1) false = true then markP out (st.getD i z64).f0 else out)
theorem markP_len (ps : List Int) : ∀ out : List Bool, (markP out ps).length = out.length := by
  induction ps with
  | nil => intro out; rfl
  | cons p ps ih =>
    intro out
    show (markP (out.set p.toNat true) ps).length = _
    rw [ih, List.length_set]
theorem reachG_len (st : List S64) : ∀ (i : Nat) (out : List Bool), (reachG st i out).length = out.length
  | 0, _ => rfl
  | i + 1, out => by
    rw [reachG, reachG_len st i]
    split
    · rw [markP_len]
    · rfl
theorem storeB_at {st : List S64} (h : storeB st = true) : st.length ≤ 60 ∧ 1 ≤ st.length ∧ ∀ i, i < st.length → commitB i (st.getD i z64).f0 (st.getD i z64).f1 = true := by
  unfold storeB inB at h
  rw [Bool.and_eq_true, allR_iff] at h
  simp only [Bool.and_eq_true, decide_eq_true_eq] at h
  exact ⟨by omega, by omega, fun i hi => h.2 i hi⟩
theorem commitB_par {n : Nat} {ps : List Int} {m : List S84} (h : commitB n ps m = true) : (∀ p, p ∈ ps → 1 ≤ p ∧ p ≤ (n : Int)) ∧ (n ≠ 0 → ps ≠ []) ∧ ps.length ≤ 2 := by
  unfold commitB at h
  rw [Bool.and_eq_true] at h
  obtain ⟨_, h⟩ := h
  match ps, h with
  | [], h =>
    refine ⟨fun p hp => by simp at hp, fun hn => ?_, by simp⟩
    simp only [beq_iff_eq] at h
    exact absurd h hn
  | [a], h =>
    simp only [Bool.and_eq_true, inB, decide_eq_true_eq] at h
    refine ⟨fun p hp => ?_, fun _ => by simp, by simp⟩
    obtain rfl : p = a := by simpa using hp
    exact h.2
  | [a, b], h =>
    simp only [Bool.and_eq_true, inB, decide_eq_true_eq] at h
    refine ⟨fun p hp => ?_, fun _ => by simp, by simp⟩
    rcases List.mem_cons.mp hp with rfl | hp
    · exact h.2.1
    · obtain rfl : p = b := by simpa using hp
      exact h.2.2.1
  | _ :: _ :: _ :: _, h => simp at h
theorem rdB {l : List Bool} (i : Nat) : rdOf false l (i : Int) = l.getD i false := by simp [rdOf]
theorem rdC_ (st : List S64) (i : Nat) : rd_T64 st (i : Int) = st.getD i z64 := by simp [rd_T64]
theorem anc_l1 (st : List S64) (i : Nat) (hi : i < 4611686018427387904) (ps : List Int) (hps : ps.length ≤ 1048576) : ∀ (d j : Nat) (out : List Bool) (r : List Bool), j + d = ps.length → (∀ p, p ∈ ps → 0 ≤ p ∧ p < (out.length : Int)) → Ev (fun k => impl_ancestors.l0 k st (markP out (ps.drop j)) (i : Int)) r →
    Ev (fun k => impl_ancestors.l1 k st out ((i + 1 : Nat) : Int) ps (ps.length : Int) (j : Int)) r := by
  have hw1 : wrap64 (((i + 1 : Nat) : Int) - 1) = (i : Int) := by unfold wrap64; omega
  intro d
  induction d with
  | zero =>
    intro j out r hj hp h
    obtain rfl : j = ps.length := by omega
    rw [List.drop_length] at h
    refine Ev.succ (g := fun k => impl_ancestors.l1 k st out ((i + 1 : Nat) : Int) ps (ps.length : Int) (ps.length : Int)) ?_
    have c1 : ¬ ((ps.length : Int) < (ps.length : Int)) := by omega
    simp only [impl_ancestors.l1, c1, if_false, hw1]
    exact h
  | succ d ih =>
    intro j out r hj hp h
    have hl : j < ps.length := by omega
    have c1 : (j : Int) < (ps.length : Int) := by omega
    have er : rd ps (j : Int) = ps[j] := by simp [rd, List.getD_eq_getElem?_getD, List.getElem?_eq_getElem hl]
    have hpj := hp ps[j] (List.getElem_mem hl)
    refine Ev.succ (g := fun k => impl_ancestors.l1 k st out ((i + 1 : Nat) : Int) ps (ps.length : Int) (j : Int)) ?_
    simp only [impl_ancestors.l1, c1, if_true, Int.natCast_nonneg, er, hpj.1, hpj.2, wrap_i (show j < 4611686018427387904 by omega)]
    refine ih (j + 1) _ r (by omega) (fun p hp2 => by rw [List.length_set]; exact hp p hp2) ?_
    rw [List.drop_eq_getElem_cons hl] at h
    exact h
theorem anc_l0 (st : List S64) (hs : storeB st = true) : ∀ (i : Nat) (out : List Bool), i ≤ st.length → out.length = st.length + 1 → Ev (fun k => impl_ancestors.l0 k st out (i : Int)) (reachG st i out)
  | 0, out, _, _ => Ev.at_ (c := 1) (fun k => by
    have c1 : ¬ (((0 : Nat) : Int) > 0) := by omega
    simp only [impl_ancestors.l0, c1, if_false]
    rfl)
  | i + 1, out, hi, ho => by
    obtain ⟨h60, _, hc⟩ := storeB_at hs
    have c1 : ((i + 1 : Nat) : Int) > 0 := by omega
    have c2 : (0 : Int) ≤ ((i + 1 : Nat) : Int) := by omega
    have c3 : ((i + 1 : Nat) : Int) < (out.length : Int) := by omega
    have hw1 : wrap64 (((i + 1 : Nat) : Int) - 1) = (i : Int) := by unfold wrap64; omega
    have c4 : (i : Int) < (st.length : Int) := by omega
    obtain ⟨hpar, _, h2⟩ := commitB_par (hc i (by omega))
    refine Ev.succ (g := fun k => impl_ancestors.l0 k st out ((i + 1 : Nat) : Int)) ?_
    simp only [impl_ancestors.l0, c1, c2, c3, if_true, hw1, Int.natCast_nonneg, c4, rdB, rdC_]
    rw [reachG]
    by_cases hb : out.getD (i + 1) false = true
    · simp only [hb, if_true]
      exact anc_l1 st i (by omega) _ (by omega) _ 0 out _ (Nat.zero_add _) (fun p hp => by have := hpar p hp; omega) (anc_l0 st hs i _ (by omega) (by rw [markP_len]; exact ho))
    · simp only [hb, if_false]
      exact anc_l0 st hs i out (by omega) ho
theorem rch_l1 (st : List S64) (i : Nat) (hi : i < st.length) (h60 : st.length ≤ 60) (hps : (st.getD i z64).f0.length ≤ 1048576) : ∀ (d j : Nat) (out : List Bool) (r : List Bool), j + d = (st.getD i z64).f0.length → (∀ p, p ∈ (st.getD i z64).f0 → 0 ≤ p ∧ p < (out.length : Int)) → Ev (fun k => spec_l03Reach.l0 k st (markP out ((st.getD i z64).f0.drop j)) (i : Int)) r →
    Ev (fun k => spec_l03Reach.l1 k st out ((i + 1 : Nat) : Int) (j : Int)) r := by
  have hw1 : wrap64 (((i + 1 : Nat) : Int) - 1) = (i : Int) := by unfold wrap64; omega
  have c4 : (i : Int) < (st.length : Int) := by omega
  intro d
  induction d with
  | zero =>
    intro j out r hj hp h
    obtain rfl : j = (st.getD i z64).f0.length := by omega
    rw [List.drop_length] at h
    refine Ev.succ (g := fun k => spec_l03Reach.l1 k st out ((i + 1 : Nat) : Int) ((st.getD i z64).f0.length : Int)) ?_
    have c1 : ¬ (((st.getD i z64).f0.length : Int) < ((st.getD i z64).f0.length : Int)) := by omega
    simp only [spec_l03Reach.l1, hw1, rdC_, c1, if_false, Int.natCast_nonneg, c4, if_true]
    exact h
  | succ d ih =>
    intro j out r hj hp h
    have hl : j < (st.getD i z64).f0.length := by omega
    have c1 : (j : Int) < ((st.getD i z64).f0.length : Int) := by omega
    have er : rd (st.getD i z64).f0 (j : Int) = (st.getD i z64).f0[j] := by
      unfold rd
      rw [Int.toNat_natCast, List.getD_eq_getElem?_getD (l := (st.getD i z64).f0), List.getElem?_eq_getElem hl]
      rfl
    have hpj := hp _ (List.getElem_mem hl)
    refine Ev.succ (g := fun k => spec_l03Reach.l1 k st out ((i + 1 : Nat) : Int) (j : Int)) ?_
    simp only [spec_l03Reach.l1, hw1, rdC_, c1, if_true, Int.natCast_nonneg, c4, er, hpj.1, hpj.2, wrap_i (show j < 4611686018427387904 by omega)]
    refine ih (j + 1) _ r (by omega) (fun p hp2 => by rw [List.length_set]; exact hp p hp2) ?_
    rw [List.drop_eq_getElem_cons hl] at h
    exact h
theorem rch_l0 (st : List S64) (hs : storeB st = true) : ∀ (i : Nat) (out : List Bool), i ≤ st.length → out.length = st.length + 1 → Ev (fun k => spec_l03Reach.l0 k st out (i : Int)) (reachG st i out)
  | 0, out, _, _ => Ev.at_ (c := 1) (fun k => by
    have c1 : ¬ (((0 : Nat) : Int) > 0) := by omega
    simp only [spec_l03Reach.l0, c1, if_false]
    rfl)
  | i + 1, out, hi, ho => by
    obtain ⟨h60, _, hc⟩ := storeB_at hs
    have c1 : ((i + 1 : Nat) : Int) > 0 := by omega
    have c2 : (0 : Int) ≤ ((i + 1 : Nat) : Int) := by omega
    have c3 : ((i + 1 : Nat) : Int) < (out.length : Int) := by omega
    have hw1 : wrap64 (((i + 1 : Nat) : Int) - 1) = (i : Int) := by unfold wrap64; omega
    obtain ⟨hpar, _, h2⟩ := commitB_par (hc i (by omega))
    refine Ev.succ (g := fun k => spec_l03Reach.l0 k st out ((i + 1 : Nat) : Int)) ?_
    simp only [spec_l03Reach.l0, c1, c2, c3, if_true, hw1, rdB]
    rw [reachG]
    by_cases hb : out.getD (i + 1) false = true
    · simp only [hb, if_true]
      exact rch_l1 st i (by omega) h60 (by omega) _ 0 out _ (Nat.zero_add _) (fun p hp => by have := hpar p hp; omega) (rch_l0 st hs i _ (by omega) (by rw [markP_len]; exact ho))
    · simp only [hb, if_false]
      exact rch_l0 st hs i out (by omega) ho
def reachL (st : List S64) (id : Nat) : List Bool := reachG st id ((List.replicate (st.length + 1) false).set id true)
theorem reachL_len (st : List S64) (id : Nat) : (reachL st id).length = st.length + 1 := by
  unfold reachL
  rw [reachG_len, List.length_set, List.length_replicate]
theorem ancestors_ev (st : List S64) (hs : storeB st = true) (id : Nat) (hid : id ≤ st.length) : Ev (fun k => impl_ancestors.f k st (id : Int)) (reachL st id) := by
  obtain ⟨h60, _, _⟩ := storeB_at hs
  have hw : wrap64 ((st.length : Int) + 1) = ((st.length + 1 : Nat) : Int) := by unfold wrap64; omega
  have c1 : st.length + 1 ≤ 281474976710656 := by omega
  have c2 : (id : Int) < ((st.length + 1 : Nat) : Int) := by omega
  unfold impl_ancestors.f
  simp only [hw, Int.natCast_nonneg, if_true, Int.toNat_natCast, c1, Option.bind_some, List.length_replicate, c2]
  exact anc_l0 st hs id _ hid (by rw [List.length_set, List.length_replicate])
theorem reach_ev (st : List S64) (hs : storeB st = true) (id : Nat) (hid : id ≤ st.length) : Ev (fun k => spec_l03Reach.f k st (id : Int)) (reachL st id) := by
  obtain ⟨h60, _, _⟩ := storeB_at hs
  have hw : wrap64 ((st.length : Int) + 1) = ((st.length + 1 : Nat) : Int) := by unfold wrap64; omega
  have c1 : st.length + 1 ≤ 281474976710656 := by omega
  have c2 : (id : Int) < ((st.length + 1 : Nat) : Int) := by omega
  unfold spec_l03Reach.f
  simp only [hw, Int.natCast_nonneg, if_true, Int.toNat_natCast, c1, Option.bind_some, List.length_replicate, c2]
  exact rch_l0 st hs id _ hid (by rw [List.length_set, List.length_replicate])
theorem getD_set (l : List Bool) (i j : Nat) (h : i < l.length) : (l.set i true).getD j false = (decide (i = j) || l.getD j false) := by
  rw [List.getD_eq_getElem?_getD, List.getD_eq_getElem?_getD, List.getElem?_set]
  by_cases e : i = j
  · subst e
    simp [h]
  · simp [e]
theorem markP_get (ps : List Int) : ∀ (out : List Bool) (j : Nat), (∀ p, p ∈ ps → 0 ≤ p ∧ p < (out.length : Int)) → ((markP out ps).getD j false = true ↔ out.getD j false = true ∨ ∃ p, p ∈ ps ∧ p.toNat = j) := by
  induction ps with
  | nil => intro out j _; simp [markP]
  | cons p ps ih =>
    intro out j hp
    have h1 := hp p List.mem_cons_self
    have e : markP out (p :: ps) = markP (out.set p.toNat true) ps := rfl
    rw [e, ih _ _ (fun q hq => by rw [List.length_set]; exact hp q (List.mem_cons_of_mem _ hq)), getD_set _ _ _ (by omega)]
    simp only [Bool.or_eq_true, decide_eq_true_eq, List.mem_cons]
    constructor
    · rintro ((h | h) | ⟨q, hq, h⟩)
      · exact .inr ⟨p, .inl rfl, h⟩
      · exact .inl h
      · exact .inr ⟨q, .inr hq, h⟩
    · rintro (h | ⟨q, rfl | hq, h⟩)
      · exact .inl (.inr h)
      · exact .inl (.inl h)
      · exact .inr ⟨q, hq, h⟩
theorem reachG_mono (st : List S64) (hs : storeB st = true) : ∀ (i : Nat) (out : List Bool), i ≤ st.length → out.length = st.length + 1 → ∀ j, out.getD j false = true → (reachG st i out).getD j false = true
  | 0, out, _, _, j, h => h
  | i + 1, out, hi, ho, j, h => by
    obtain ⟨h60, _, hc⟩ := storeB_at hs
    obtain ⟨hpar, _, _⟩ := commitB_par (hc i (by omega))
    rw [reachG]
    by_cases hb : out.getD (i + 1) false = true
    · rw [if_pos hb]
      exact reachG_mono st hs i _ (by omega) (by rw [markP_len]; exact ho) j ((markP_get _ _ _ (fun p hp => by have := hpar p hp; omega)).mpr (.inl h))
    · rw [if_neg hb]
      exact reachG_mono st hs i out (by omega) ho j h
theorem reachG_one (st : List S64) (hs : storeB st = true) : ∀ (i : Nat) (out : List Bool), i ≤ st.length → out.length = st.length + 1 → (∃ j, 1 ≤ j ∧ j ≤ i ∧ out.getD j false = true) → (reachG st i out).getD 1 false = true
  | 0, out, _, _, ⟨j, h1, h2, _⟩ => by omega
  | i + 1, out, hi, ho, ⟨j, h1, h2, h3⟩ => by
    obtain ⟨h60, _, hc⟩ := storeB_at hs
    obtain ⟨hpar, hne, _⟩ := commitB_par (hc i (by omega))
    by_cases h0 : i = 0
    · subst h0
      obtain rfl : j = 1 := by omega
      exact reachG_mono st hs 1 out hi ho 1 h3
    rw [reachG]
    by_cases hb : out.getD (i + 1) false = true
    · rw [if_pos hb]
      obtain ⟨p, hp⟩ := List.exists_mem_of_ne_nil _ (hne h0)
      have h4 := hpar p hp
      exact reachG_one st hs i _ (by omega) (by rw [markP_len]; exact ho) ⟨p.toNat, by omega, by omega, (markP_get _ _ _ (fun q hq => by have := hpar q hq; omega)).mpr (.inr ⟨p, hp, rfl⟩)⟩
    · rw [if_neg hb]
      refine reachG_one st hs i out (by omega) ho ⟨j, h1, ?_, h3⟩
      have : j ≠ i + 1 := by
        rintro rfl
        exact hb h3
      omega
theorem reachL_one {st : List S64} (hs : storeB st = true) {id : Nat} (h1 : 1 ≤ id) (h2 : id ≤ st.length) : (reachL st id).getD 1 false = true := by
  refine reachG_one st hs id _ h2 (by rw [List.length_set, List.length_replicate]) ⟨id, h1, Nat.le_refl _, ?_⟩
  rw [getD_set _ _ _ (by rw [List.length_replicate]; omega)]
  simp
def askC (st : List S64) (ids : List Int) : Int := if (st.length : Int) > 4096 then 2 else if storeB st = true then (if ids.all (fun x => inB x 1 st.length) = true then 0 else 5) else 1
theorem idCode_ev (st : List S64) (ids : List Int) (hs : st.length ≤ 1048576) (hf : ∀ x, x ∈ st → x.f1.length ≤ 1048576) : Ev (fun k => impl_idCode.f k st ids) (askC st ids) := by
  unfold impl_idCode.f askC impl_Commit.f
  by_cases h : (st.length : Int) > 4096
  · have h2 : ¬ (st.length : Int) ≤ 4096 := by omega
    simp only [h, h2, if_true, Option.bind_some, decide_false, Bool.false_eq_true, if_false]
    exact Ev.now _
  have h2 : (st.length : Int) ≤ 4096 := by omega
  simp only [h, h2, if_false, Option.bind_some, decide_true, if_true]
  refine Ev.bind (storeOK_ev st hs hf) ?_
  cases storeB st with
  | false => simp only [Bool.false_eq_true, if_false]; exact Ev.now _
  | true =>
    simp only [if_true, areAllint_idCode.f, Option.bind_some]
    cases ids.all (fun x => inB x 1 st.length) with
    | false => simp only [Bool.false_eq_true, if_false]; exact Ev.now _
    | true => simp only [if_true]; exact Ev.now _
theorem l03Ask_ev (st : List S64) (ids : List Int) (hi : ids.length ≤ 1048576) : Ev (fun k => spec_l03Ask.f k st ids) (askC st ids) := by
  unfold spec_l03Ask.f askC
  by_cases h : (st.length : Int) > 4096
  · simp only [h, if_true]
    exact Ev.now _
  simp only [h, if_false]
  refine Ev.bind (l03OK_ev st) ?_
  cases storeB st with
  | false => simp only [Bool.false_eq_true, if_false]; exact Ev.now _
  | true =>
    simp only [if_true]
    have key : ∀ (d j : Nat), j + d = ids.length → Ev (fun k => spec_l03Ask.l0 k st ids (j : Int)) (if (ids.drop j).all (fun x => inB x 1 st.length) = true then 0 else 5) := by
      intro d
      induction d with
      | zero =>
        intro j hj
        rw [List.drop_eq_nil_of_le (by omega)]
        refine Ev.at_ (c := 1) (fun k => ?_)
        simp only [spec_l03Ask.l0]
        rw [if_neg (by omega)]
        rfl
      | succ d ih =>
        intro j hj
        have hl : j < ids.length := by omega
        have c1 : (j : Int) < (ids.length : Int) := by omega
        have er : rd ids (j : Int) = ids[j] := by simp [rd, List.getD_eq_getElem?_getD, List.getElem?_eq_getElem hl]
        rw [List.drop_eq_getElem_cons hl]
        refine Ev.succ (g := fun k => spec_l03Ask.l0 k st ids (j : Int)) ?_
        simp only [spec_l03Ask.l0, c1, if_true, Int.natCast_nonneg, er, l01In_is, Option.bind_some, List.all_cons]
        by_cases hq : inB ids[j] 1 st.length = true
        · simp only [hq, if_true, Bool.true_and, wrap_i (show j < 4611686018427387904 by omega)]
          exact ih (j + 1) (by omega)
        · rw [Bool.not_eq_true] at hq
          simp only [hq, Bool.false_eq_true, if_false, Bool.false_and]
          exact Ev.now _
    exact key ids.length 0 (by omega)
theorem askC_zero {st : List S64} {ids : List Int} (h : askC st ids = 0) : storeB st = true ∧ ∀ x, x ∈ ids → 1 ≤ x ∧ x ≤ (st.length : Int) := by
  unfold askC at h
  by_cases h1 : (st.length : Int) > 4096
  · rw [if_pos h1] at h
    omega
  rw [if_neg h1] at h
  by_cases h2 : storeB st = true
  · rw [if_pos h2] at h
    by_cases h3 : ids.all (fun x => inB x 1 st.length) = true
    · refine ⟨h2, fun x hx => ?_⟩
      have := List.all_eq_true.mp h3 x hx
      simpa [inB] using this
    · rw [if_neg h3] at h
      omega
  · rw [if_neg h2] at h
    omega
theorem askC_long {st : List S64} {ids : List Int} (h : (st.length : Int) > 4096) : askC st ids = 2 := by
  unfold askC
  rw [if_pos h]
end Go.Proofs.YtblejbgkcgajgaaGreat.Q
end

section
namespace Go.Proofs.YtblejbgkcgajgaaGreat.Q
open Go.RowKit Go.Proofs.YtblejbgkcgajgaaGreatW.PrintWords Go.Proofs.YtblejbgkcgajgaaGreatW.PrintLast
set_option linter.unusedVariables false
set_option linter.unusedSimpArgs false
theorem base_loop (x y : List Bool) (hx : x.getD 1 false = true) (hy : y.getD 1 false = true) : ∀ i : Nat, 1 ≤ i → i < x.length → i < y.length → i < 4611686018427387904 → ∃ r : Nat, 1 ≤ r ∧ r ≤ i ∧ Ev (fun k => spec_l03Base.l0 k x y (i : Int)) (r : Int) ∧ Ev (fun k => impl_baseOf.l0 k x y (i : Int)) (r : Int)
  | 0, h, _, _, _ => by omega
  | i + 1, h1, hi, hj, hb => by
    have c1 : ((i + 1 : Nat) : Int) < (x.length : Int) := by omega
    have c2 : ((i + 1 : Nat) : Int) < (y.length : Int) := by omega
    have hw : wrap64 (((i + 1 : Nat) : Int) - 1) = (i : Int) := by unfold wrap64; omega
    by_cases hxy : x.getD (i + 1) false = true ∧ y.getD (i + 1) false = true
    · refine ⟨i + 1, h1, Nat.le_refl _, Ev.at_ (c := 1) (fun k => ?_), Ev.at_ (c := 1) (fun k => ?_)⟩
      · simp only [spec_l03Base.l0, Int.natCast_nonneg, if_true, c1, c2, rdB, hxy.1, hxy.2]
      · simp only [impl_baseOf.l0, Int.natCast_nonneg, if_true, c1, c2, rdB, hxy.1, hxy.2]
    · have h0 : i ≠ 0 := by
        rintro rfl
        exact hxy ⟨hx, hy⟩
      obtain ⟨r, hr1, hr2, e1, e2⟩ := base_loop x y hx hy i (by omega) (by omega) (by omega) (by omega)
      refine ⟨r, hr1, by omega, ?_, ?_⟩
      · refine Ev.succ (g := fun k => spec_l03Base.l0 k x y ((i + 1 : Nat) : Int)) ?_
        by_cases h3 : x.getD (i + 1) false = true
        · have h4 : ¬ (y.getD (i + 1) false = true) := fun h => hxy ⟨h3, h⟩
          simp only [spec_l03Base.l0, Int.natCast_nonneg, if_true, c1, c2, rdB, h3, h4, if_false, hw]
          exact e1
        · simp only [spec_l03Base.l0, Int.natCast_nonneg, if_true, c1, c2, rdB, h3, if_false, hw]
          exact e1
      · refine Ev.succ (g := fun k => impl_baseOf.l0 k x y ((i + 1 : Nat) : Int)) ?_
        by_cases h3 : x.getD (i + 1) false = true
        · have h4 : ¬ (y.getD (i + 1) false = true) := fun h => hxy ⟨h3, h⟩
          simp only [impl_baseOf.l0, Int.natCast_nonneg, if_true, c1, c2, rdB, h3, h4, if_false, hw]
          exact e2
        · simp only [impl_baseOf.l0, Int.natCast_nonneg, if_true, c1, c2, rdB, h3, if_false, hw]
          exact e2
theorem baseOf_both (st : List S64) (hs : storeB st = true) (i j : Nat) (h1 : 1 ≤ i) (h2 : i ≤ st.length) (h3 : 1 ≤ j) (h4 : j ≤ st.length) :
    ∃ r : Nat, 1 ≤ r ∧ r ≤ st.length ∧ Ev (fun k => spec_l03Base.f k st (i : Int) (j : Int)) (r : Int) ∧ Ev (fun k => impl_baseOf.f k st (i : Int) (j : Int)) (r : Int) := by
  obtain ⟨h60, _, _⟩ := storeB_at hs
  have em : mn (i : Int) (j : Int) = ((min i j : Nat) : Int) := by unfold mn; split <;> omega
  obtain ⟨r, hr1, hr2, e1, e2⟩ := base_loop (reachL st i) (reachL st j) (reachL_one hs h1 h2) (reachL_one hs h3 h4) (min i j) (by omega) (by rw [reachL_len]; omega) (by rw [reachL_len]; omega) (by omega)
  refine ⟨r, hr1, by omega, ?_, ?_⟩
  · unfold spec_l03Base.f
    refine Ev.bind (reach_ev st hs i h2) (Ev.bind (reach_ev st hs j h4) ?_)
    rw [em]
    exact e1
  · unfold impl_baseOf.f
    refine Ev.bind (ancestors_ev st hs i h2) (Ev.bind (ancestors_ev st hs j h4) ?_)
    rw [em]
    exact e2
end Go.Proofs.YtblejbgkcgajgaaGreat.Q
end

section
namespace Go.Proofs.YtblejbgkcgajgaaGreat.Q
open Go.RowKit Go.Proofs.YtblejbgkcgajgaaGreatW.PrintWords Go.Proofs.YtblejbgkcgajgaaGreatW.PrintLast
set_option linter.unusedVariables false
set_option linter.unusedSimpArgs false
theorem rdEntry {l : List S84} {i : Nat} (h : i < l.length) : rd_T84 l (i : Int) = l[i] := by
  simp [rd_T84, List.getD_eq_getElem?_getD, List.getElem?_eq_getElem h]
end Go.Proofs.YtblejbgkcgajgaaGreat.Q
end

section
namespace Go.Proofs.YtblejbgkcgajgaaGreat.Q
open Go.RowKit Go.Proofs.YtblejbgkcgajgaaGreatW.PrintWords Go.Proofs.YtblejbgkcgajgaaGreatW.PrintLast
set_option linter.unusedVariables false
set_option linter.unusedSimpArgs false
theorem mapB_len {l : List S84} (h : mapB l = true) : l.length ≤ 12 := by
  unfold mapB at h
  simp only [Bool.and_eq_true, decide_eq_true_eq] at h
  exact h.1
theorem mapB_rise {l : List S84} (h : mapB l = true) : RiseP l := by
  unfold mapB at h
  simp only [Bool.and_eq_true, allR_iff] at h
  have adj : ∀ j (hj : j + 1 < l.length), sblt l[j].f0 l[j + 1].f0 = true := by
    intro j hj
    have h2 := h.2 (j + 1) hj
    unfold entAt at h2
    have e : (((j + 1 : Nat) : Int) - 1) = (j : Int) := by omega
    rw [e, rdEntry (i := j) (by omega), rdEntry hj] at h2
    have z : (j + 1 == 0) = false := rfl
    simp only [z, Bool.false_or, Bool.and_eq_true] at h2
    exact h2.2
  unfold RiseP
  rw [List.pairwise_iff_getElem]
  intro i j hi hj hij
  obtain ⟨d, rfl⟩ : ∃ d, j = i + 1 + d := ⟨j - (i + 1), by omega⟩
  induction d with
  | zero => exact adj i hj
  | succ d ih => exact sblt_trans (ih (by omega) (by omega)) (adj (i + 1 + d) hj)
theorem cmpK_self {k : ByteArray} {x : S84} : cmpK k x = 0 ↔ x.f0 = k := by
  unfold cmpK cmpB
  rw [cmp_eq]
  constructor
  · intro h
    apply toList_inj
    rw [ByteArray.toList_eq, ByteArray.toList_eq, h]
  · intro h; rw [h]
theorem find_some {l : List S84} {k : ByteArray} {i : Nat} (h : RiseP l) (hi : i < l.length) (hk : l[i].f0 = k) : cntN (cmpK k) l = i ∧ fndB (cmpK k) l = true := by
  have hp := List.pairwise_iff_getElem.mp h
  have hc : cntN (cmpK k) l = i := by
    refine cntN_is l i (by omega) (fun t ht h2 => ?_) (fun t ht h2 => ?_)
    · rw [cmpK_lt, ← hk]
      exact hp t i ht hi h2
    · have h3 : ¬ cmpK k l[t] < 0 := by
        rw [cmpK_lt, ← hk]
        rcases Nat.lt_or_eq_of_le h2 with h4 | h4
        · rw [sblt_asymm (hp i t hi ht h4)]
          simp
        · subst h4
          rw [sblt_irrefl]
          simp
      omega
  refine ⟨hc, ?_⟩
  unfold fndB
  rw [hc, List.getElem?_eq_getElem hi]
  simp only [beq_iff_eq]
  exact cmpK_self.mpr hk
theorem find_none {l : List S84} {k : ByteArray} (hn : ∀ i (hi : i < l.length), l[i].f0 ≠ k) : fndB (cmpK k) l = false := by
  unfold fndB
  cases hx : l[cntN (cmpK k) l]? with
  | none => rfl
  | some x =>
    obtain ⟨hi, rfl⟩ := List.getElem?_eq_some_iff.mp hx
    simp only [beq_eq_false_iff_ne, ne_eq]
    rw [cmpK_self]
    exact hn _ hi
theorem find_f {l : List S84} {k : ByteArray} (h : RiseP l) (hl : l.length ≤ 1048576) : impl_find.f l k = some (((cntN (cmpK k) l : Nat) : Int), fndB (cmpK k) l) := by
  unfold impl_find.f bs_find.f
  rw [if_pos h, if_pos (by omega)]
  rfl
end Go.Proofs.YtblejbgkcgajgaaGreat.Q
end
