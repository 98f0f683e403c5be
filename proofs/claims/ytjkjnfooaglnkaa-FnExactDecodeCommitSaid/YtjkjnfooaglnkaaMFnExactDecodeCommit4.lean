/- Parts of the proof of the law FnExactDecodeCommit, joined into one text. -/
import Derived.Test.YtjkjnfooaglnkaaMFnExactDecodeCommit3
section
namespace Go.Proofs.Ytjkjnfooaglnkaa.Q
open Go.RowKit Go.Proofs.YtjkjnfooaglnkaaW.PrintWords Go.Proofs.YtjkjnfooaglnkaaW.PrintLast Go.Proofs.YtjkjnfooaglnkaaW.PrintMore
attribute [local go_sem] max2_int min2_int max_two min_two max_three min_three max_four min_four   -- for this text's walks alone
set_option linter.unusedVariables false
set_option linter.unusedSimpArgs false
attribute [local go_sem] bin_leq bin_gtr bin_geq
mutual
def laws_FnExactDecodeCommit.j0 : Nat → ByteArray → Int → Bool → List Int → List (S90) → List Int → List (S90) → Option (Bool)
  | 0, _, _, _, _, _, _, _ => none
  | k + 1, x0, x4, x32, x249000, x249001, x257000, x257001 => if x32 = true then (some false) else ((laws_markCommit.f k x257000 x257001 1).bind fun bt258 => ((laws_heldCommit.f k bt258.2.1 bt258.2.2 1).bind fun t261 => (if t261 < 0 then (some false) else (if t261 = bt258.1 then ((impl_DecodeCommit.f k x0).bind fun bt262 => ((laws_eqCommit.f k bt262.1 bt262.2.1 x249000 x249001).bind fun t270 => (if t270 = true then (laws_FnExactDecodeCommit.j1 k bt258.1 (bt262.2.2 != x4) bt258.2.1 bt258.2.2) else (laws_FnExactDecodeCommit.j1 k bt258.1 true bt258.2.1 bt258.2.2)))) else (some false)))))
def laws_FnExactDecodeCommit.j1 : Nat → Int → Bool → List Int → List (S90) → Option (Bool)
  | 0, _, _, _, _ => none
  | k + 1, x7, x57, x257000, x257001 => if x57 = true then (some false) else ((laws_heldCommit.f k x257000 x257001 1).bind fun t271 => (if t271 < 0 then (some false) else (if t271 = x7 then (some true) else (some false))))
end
def laws_FnExactDecodeCommit.f (k : Nat) (a0 : ByteArray) : Option (Bool) := if (a0.size : Int) > 1048576 then (some true) else ((spec_DecodeCommit.f k a0).bind fun bt241 => ((impl_DecodeCommit.f k a0).bind fun bt249 => ((laws_eqCommit.f k bt249.1 bt249.2.1 bt241.1 bt241.2.1).bind fun t257 => (if t257 = true then (laws_FnExactDecodeCommit.j0 k a0 bt241.2.2 (bt249.2.2 != bt241.2.2) bt241.1 bt241.2.1 bt249.1 bt249.2.1) else (laws_FnExactDecodeCommit.j0 k a0 bt241.2.2 true bt241.1 bt241.2.1 bt249.1 bt249.2.1)))))
set_option maxHeartbeats 8000000 in
set_option maxRecDepth 100000 in
theorem laws_FnExactDecodeCommit.calls (k : Nat) (a0 : ByteArray) (r : Bool) (w : World) (h : laws_FnExactDecodeCommit.f k a0 = some r) :
    Calls Try.prog 3 #[.string a0] w fun e w' => e = .returned (.bool r) ∧ Below w.heap.size w w' := by
  have hu25 := Try.underlying25
  have HB := Aside0.mk (Below.refl w.heap.size w)
  have H : (if (a0.size : Int) > 1048576 then (some true) else ((spec_DecodeCommit.f k a0).bind fun bt241 => ((impl_DecodeCommit.f k a0).bind fun bt249 => ((laws_eqCommit.f k bt249.1 bt249.2.1 bt241.1 bt241.2.1).bind fun t257 => (if t257 = true then (laws_FnExactDecodeCommit.j0 k a0 bt241.2.2 (bt249.2.2 != bt241.2.2) bt241.1 bt241.2.1 bt249.1 bt249.2.1) else (laws_FnExactDecodeCommit.j0 k a0 bt241.2.2 true bt241.1 bt241.2.1 bt249.1 bt249.2.1)))))) = some r := h
  clear h
  by_cases c2 : (a0.size : Int) > 1048576
  · rw [if_pos c2] at H
    have c2b0 : decide (1048576 < (a0.size : Int)) = true := decide_eq_true c2
    have c2b1 : decide (1048576 < a0.size) = true := decide_eq_true (by omega)
    clear c2
    obtain rfl := Option.some.inj H
    go_enter Try.func3, Try.ntmps3
    go_wp2
    go_ret
    exact ⟨rE, bW⟩
  · rw [if_neg c2] at H
    have c2b0 : decide (1048576 < (a0.size : Int)) = false := decide_eq_false c2
    have c2b1 : decide (1048576 < a0.size) = false := decide_eq_false (by omega)
    clear c2
    replace H := Option.bind_eq_some_iff.mp H
    obtain ⟨⟨t241, t244, t247⟩, A30, H⟩ := H
    replace H : ((impl_DecodeCommit.f k a0).bind fun bt249 => ((laws_eqCommit.f k bt249.1 bt249.2.1 t241 t244).bind fun t257 => (if t257 = true then (laws_FnExactDecodeCommit.j0 k a0 t247 (bt249.2.2 != t247) t241 t244 bt249.1 bt249.2.1) else (laws_FnExactDecodeCommit.j0 k a0 t247 true t241 t244 bt249.1 bt249.2.1)))) = some r := H
    have A3 := Aside0.mk A30
    clear A30
    replace H := Option.bind_eq_some_iff.mp H
    obtain ⟨⟨t249, t252, t255⟩, A40, H⟩ := H
    replace H : ((laws_eqCommit.f k t249 t252 t241 t244).bind fun t257 => (if t257 = true then (laws_FnExactDecodeCommit.j0 k a0 t247 (t255 != t247) t241 t244 t249 t252) else (laws_FnExactDecodeCommit.j0 k a0 t247 true t241 t244 t249 t252))) = some r := H
    have A4 := Aside0.mk A40
    clear A40
    have HC5 := Aside0.mk H
    clear H
    go_enter Try.func3, Try.ntmps3
    go_upto_region 5 with (first | ((with_reducible refine gate_callee (f := 6) rfl ?_); refine goesL_ (some 16) rfl rfl Try.func6 (by kernel_rfl) rfl #[.string a0] rfl gA ?_; (with_reducible refine (spec_DecodeCommit.calls k a0 t241 t244 t247 _ A3.out).mono ?_); rintro e w6 ⟨v242, v245, rfl, ho0, ho1, hb⟩; refine ⟨_, rfl, ?_⟩; have n0_ := Aside0.mk (Kd.R_lower ho0 (below_size (w := w) bW)); have n1_ := Aside0.mk (Kd.R_lower ho1 (below_size (w := w) bW)); have n2_ := Aside0.mk (below_step (w := w) bW hb); clear HB; have HO243 := n0_; have HO246 := n1_; have HB := n2_; clear n0_ n1_ n2_; (try clear hb); (try clear hb2); (try clear hk); (try clear hi); (try clear ho0); (try clear ho1)) | ((with_reducible refine gate_dst (N := 3) rfl ?_); refine bE (N := 3) (cs := #[.slice none 0 0, .slice none 0 0]) (t := 25) ?_; intro gb248 hg w7 hbox hb; have n0_ := Aside0.mk (Kd.R_below (pR HO243) hb); have n1_ := Aside0.mk (Kd.R_below (pR HO246) hb); have n2_ := Aside0.mk (below_step (w := w) bW hb); have n3_ := Aside0.mk (hbox); have n4_ := Aside0.mk (gS (w := w) hg); have n5_ := n4_; clear HO243; clear HO246; clear HB; have HO243 := n0_; have HO246 := n1_; have HB := n2_; have BK248 := n3_; have GW248 := n4_; have GE248 := n5_; clear n0_ n1_ n2_ n3_ n4_ n5_; clear hb hbox hg; obtain ⟨Ao8, co8, eo8⟩ := Kd.R_slice HO243.out; subst eo8; obtain ⟨hcz9_0, hcz9_1⟩ := cz2 BK248; obtain ⟨hfz9_0, hfz9_1⟩ := fz2 BK248; obtain ⟨Ao10, co10, eo10⟩ := Kd.R_slice HO246.out; subst eo10) | ((with_reducible refine gate_callee (f := 7) rfl ?_); refine goesL_ (some 21) rfl rfl Try.func7 (by kernel_rfl) rfl #[.string a0] rfl gA ?_; (with_reducible refine (impl_DecodeCommit.calls k a0 t249 t252 t255 _ A4.out).mono ?_); rintro e w11 ⟨v250, v253, rfl, ho0, ho1, hb⟩; refine ⟨_, rfl, ?_⟩; have n0_ := Aside0.mk (Kd.R_elder' (by (with_reducible repeat (first | apply Kd.R_alloc | apply Kd.R_drewN | apply Kd.R_drew)); exact (Kd.R_mono (Kd.R_far (p := ⟨gb248, 1, none⟩) (Kd.R_far (p := ⟨gb248, 0, none⟩) (Kd.R_types HO243.out BK248.out (by decide)) (fun _ hk => hk.2) (.slice Ao8 t241.length co8)) (fun _ hk => hk.2) (.slice Ao10 t244.length co10)) (fun _ h_ => h_.1))) (Kd.R_base ho0) hb); have n1_ := Aside0.mk (Kd.R_elder' (by (with_reducible repeat (first | apply Kd.R_alloc | apply Kd.R_drewN | apply Kd.R_drew)); exact (Kd.R_mono (Kd.R_far (p := ⟨gb248, 1, none⟩) (Kd.R_far (p := ⟨gb248, 0, none⟩) (Kd.R_types HO246.out BK248.out (by decide)) (fun _ hk => hk.2) (.slice Ao8 t241.length co8)) (fun _ hk => hk.2) (.slice Ao10 t244.length co10)) (fun _ h_ => h_.1))) (Kd.R_base ho1) hb); have n2_ := Aside0.mk (Kd.R_lower (Kd.R_new' ho0 (Kd.R_lt (by (with_reducible repeat (first | apply Kd.R_alloc | apply Kd.R_drewN | apply Kd.R_drew)); exact (Kd.R_mono (Kd.R_far (p := ⟨gb248, 1, none⟩) (Kd.R_far (p := ⟨gb248, 0, none⟩) (Kd.R_types HO243.out BK248.out (by decide)) (fun _ hk => hk.2) (.slice Ao8 t241.length co8)) (fun _ hk => hk.2) (.slice Ao10 t244.length co10)) (fun _ h_ => h_.1))))) (below_size (w := w) bW)); have n3_ := Aside0.mk (Kd.R_lower (Kd.R_new' ho1 (Kd.R_lt (by (with_reducible repeat (first | apply Kd.R_alloc | apply Kd.R_drewN | apply Kd.R_drew)); exact (Kd.R_mono (Kd.R_far (p := ⟨gb248, 1, none⟩) (Kd.R_far (p := ⟨gb248, 0, none⟩) (Kd.R_types HO246.out BK248.out (by decide)) (fun _ hk => hk.2) (.slice Ao8 t241.length co8)) (fun _ hk => hk.2) (.slice Ao10 t244.length co10)) (fun _ h_ => h_.1))))) (below_size (w := w) bW)); have n4_ := Aside0.mk (blk_below (g := gb248) (o := .cells #[.slice Ao8 t241.length co8, .slice Ao10 t244.length co10] 25 (0, 0)) (by (with_reducible repeat (first | refine blk_drewN ?_ _ | refine blk_drew ?_ | refine blk_alloc ?_ _)); refine blk_put (cs := #[.slice Ao8 t241.length co8, .slice none 0 0]) ?_ 1 _ rfl; (with_reducible repeat (first | refine blk_drewN ?_ _ | refine blk_drew ?_ | refine blk_alloc ?_ _)); refine blk_put (cs := #[.slice none 0 0, .slice none 0 0]) ?_ 0 _ rfl; (with_reducible repeat (first | refine blk_drewN ?_ _ | refine blk_drew ?_ | refine blk_alloc ?_ _)); exact BK248.out) hb); have n5_ := Aside0.mk (below_step (w := w) bW hb); clear HO243; clear HO246; clear BK248; clear HB; have HO243 := n0_; have HO246 := n1_; have HO251 := n2_; have HO254 := n3_; have BK248 := n4_; have HB := n5_; clear n0_ n1_ n2_ n3_ n4_ n5_; (try clear hb); (try clear hb2); (try clear hk); (try clear hi); (try clear ho0); (try clear ho1)) | ((with_reducible refine gate_dst (N := 5) rfl ?_); refine bE (N := 5) (cs := #[.slice none 0 0, .slice none 0 0]) (t := 25) ?_; intro gb256 hg w12 hbox hb; have n0_ := Aside0.mk (Kd.R_below (pR HO243) hb); have n1_ := Aside0.mk (Kd.R_below (pR HO246) hb); have n2_ := Aside0.mk (Kd.R_below (pR HO251) hb); have n3_ := Aside0.mk (Kd.R_below (pR HO254) hb); have n4_ := Aside0.mk (kb BK248 hb); have n5_ := Aside0.mk (below_step (w := w) bW hb); have n6_ := Aside0.mk (hbox); have n7_ := Aside0.mk (gS (w := w) hg); have n8_ := n7_; have n9_ := Aside0.mk (nL BK248 hg); have n10_ := Aside0.mk (nG BK248 hg); clear HO243; clear HO246; clear HO251; clear HO254; clear BK248; clear HB; have HO243 := n0_; have HO246 := n1_; have HO251 := n2_; have HO254 := n3_; have BK248 := n4_; have HB := n5_; have BK256 := n6_; have GW256 := n7_; have GE256 := n8_; have NB248_256 := n9_; have NB256_248 := n10_; clear n0_ n1_ n2_ n3_ n4_ n5_ n6_ n7_ n8_ n9_ n10_; clear hb hbox hg; obtain ⟨Ao13, co13, eo13⟩ := Kd.R_slice HO251.out; subst eo13; have hnb14 := NB256_248.out; have hnc14 := NB248_256.out; obtain ⟨hcz15_0, hcz15_1⟩ := cz2 BK256; obtain ⟨hfz15_0, hfz15_1⟩ := fz2 BK256; obtain ⟨Ao16, co16, eo16⟩ := Kd.R_slice HO254.out; subst eo16))
    (try simp only [Act.put, List.setIfInBounds_toArray, List.set_cons_zero, List.set_cons_succ])
    go_cut [32] (fun v32 wc => ∃ (kq : Nat) (x32_4 : Bool), v32 = .bool x32_4 ∧ Aside0 (laws_FnExactDecodeCommit.j0 kq a0 t247 x32_4 t241 t244 t249 t252 = some r) ∧ Aside0 (kq ≤ k) ∧ Aside0 (Kd.R (Kd.int .i64) 3 wc w.heap.size (fun k_ => some k_ ≠ ((.slice Ao13 t249.length co13) : Value).ownBlock) (.slice Ao8 t241.length co8) t241) ∧ Aside0 (Kd.R k90 90 wc w.heap.size (fun k_ => some k_ ≠ ((.slice Ao16 t252.length co16) : Value).ownBlock) (.slice Ao10 t244.length co10) t244) ∧ Aside0 (Kd.R (Kd.int .i64) 3 wc w.heap.size (fun k_ => some k_ ≠ ((.slice Ao8 t241.length co8) : Value).ownBlock) (.slice Ao13 t249.length co13) t249) ∧ Aside0 (Kd.R k90 90 wc w.heap.size (fun k_ => some k_ ≠ ((.slice Ao10 t244.length co10) : Value).ownBlock) (.slice Ao16 t252.length co16) t252) ∧ Aside0 (wc.heap[gb248]? = some (.cells #[(.slice Ao8 t241.length co8), (.slice Ao10 t244.length co10)] 25 (0, 0))) ∧ Aside0 (wc.heap[gb256]? = some (.cells #[(.slice Ao13 t249.length co13), (.slice Ao16 t252.length co16)] 25 (0, 0))) ∧ Aside0 (Below w.heap.size w wc))
    case first =>
      have H := HC5.out
      clear HC5
      replace H := Option.bind_eq_some_iff.mp H
      obtain ⟨t257, A170, H⟩ := H
      replace H : (if t257 = true then (laws_FnExactDecodeCommit.j0 k a0 t247 (t255 != t247) t241 t244 t249 t252) else (laws_FnExactDecodeCommit.j0 k a0 t247 true t241 t244 t249 t252)) = some r := H
      have A17 := Aside0.mk A170
      clear A170
      by_cases c18 : t257 = true
      · subst c18
        have H1 : (laws_FnExactDecodeCommit.j0 k a0 t247 (t255 != t247) t241 t244 t249 t252) = some r := by rw [if_pos rfl] at H; exact H
        clear H
        have H := H1
        clear H1
        have H' := Aside0.mk H
        clear H
        have hnb19 := NB256_248.out
        have hnc19 := NB248_256.out
        have hcz20_0 : w12.cell? ⟨gb256, 0, none⟩ = some (.slice none 0 0) := (blk_cell BK256.out 0).trans rfl
        have hcz20_1 : w12.cell? ⟨gb256, 1, none⟩ = some (.slice none 0 0) := (blk_cell BK256.out 1).trans rfl
        have hfz20_0 := blk_frozen BK256.out 0
        have hfz20_1 := blk_frozen BK256.out 1
        have hcz21_0 : w12.cell? ⟨gb248, 0, none⟩ = some (.slice Ao8 t241.length co8) := (blk_cell BK248.out 0).trans rfl
        have hcz21_1 : w12.cell? ⟨gb248, 1, none⟩ = some (.slice Ao10 t244.length co10) := (blk_cell BK248.out 1).trans rfl
        have hfz21_0 := blk_frozen BK248.out 0
        have hfz21_1 := blk_frozen BK248.out 1
        go_wp2_with (first | ((with_reducible refine gate_callee (f := 8) rfl ?_); refine goesL_ (some 26) rfl rfl Try.func8 (by kernel_rfl) rfl #[.agg #[.slice Ao13 t249.length co13, .slice Ao16 t252.length co16], .agg #[.slice Ao8 t241.length co8, .slice Ao10 t244.length co10]] rfl gA ?_; (with_reducible refine (laws_eqCommit.calls k _ _ t249 _ _ t252 _ _ t241 _ _ t244 true _ ?side1 ?side2 ?side3 ?side4 ?side5 ?side6 ?side7 ?side8 A17.out).mono ?_); (case side1 => refine (Kd.R_reads' (e := 3) (base := w.heap.size) (ok := fun k_ => (True ∧ some k_ ≠ (.slice Ao8 t241.length co8 : Value).ownBlock)) (n := t249.length) (c := co13) ?_).2.2; exact (by (with_reducible repeat (first | apply Kd.R_alloc | apply Kd.R_drewN | apply Kd.R_drew)); exact (Kd.R_mono (Kd.R_far (p := ⟨gb256, 1, none⟩) (Kd.R_far (p := ⟨gb256, 0, none⟩) (Kd.R_types HO251.out BK256.out (by decide)) (fun _ hk => hk.2) (.slice Ao13 t249.length co13)) (fun _ hk => hk.2) (.slice Ao16 t252.length co16)) (fun _ h_ => h_.1)))); (case side2 => exact (Kd.R_reads' HO251.out).2.1); (case side3 => refine (Kd.R_reads' (e := 90) (base := w.heap.size) (ok := fun k_ => (True ∧ some k_ ≠ (.slice Ao10 t244.length co10 : Value).ownBlock)) (n := t252.length) (c := co16) ?_).2.2; exact (by (with_reducible repeat (first | apply Kd.R_alloc | apply Kd.R_drewN | apply Kd.R_drew)); exact (Kd.R_mono (Kd.R_far (p := ⟨gb256, 1, none⟩) (Kd.R_far (p := ⟨gb256, 0, none⟩) (Kd.R_types HO254.out BK256.out (by decide)) (fun _ hk => hk.2) (.slice Ao13 t249.length co13)) (fun _ hk => hk.2) (.slice Ao16 t252.length co16)) (fun _ h_ => h_.1)))); (case side4 => exact (Kd.R_reads' HO254.out).2.1); (case side5 => refine (Kd.R_reads' (e := 3) (base := w.heap.size) (ok := fun k_ => (True ∧ some k_ ≠ (.slice Ao13 t249.length co13 : Value).ownBlock)) (n := t241.length) (c := co8) ?_).2.2; exact (by (with_reducible repeat (first | apply Kd.R_alloc | apply Kd.R_drewN | apply Kd.R_drew)); exact (Kd.R_mono (Kd.R_far (p := ⟨gb256, 1, none⟩) (Kd.R_far (p := ⟨gb256, 0, none⟩) (Kd.R_types HO243.out BK256.out (by decide)) (fun _ hk => hk.2) (.slice Ao13 t249.length co13)) (fun _ hk => hk.2) (.slice Ao16 t252.length co16)) (fun _ h_ => h_.1)))); (case side6 => exact (Kd.R_reads' HO243.out).2.1); (case side7 => refine (Kd.R_reads' (e := 90) (base := w.heap.size) (ok := fun k_ => (True ∧ some k_ ≠ (.slice Ao16 t252.length co16 : Value).ownBlock)) (n := t244.length) (c := co10) ?_).2.2; exact (by (with_reducible repeat (first | apply Kd.R_alloc | apply Kd.R_drewN | apply Kd.R_drew)); exact (Kd.R_mono (Kd.R_far (p := ⟨gb256, 1, none⟩) (Kd.R_far (p := ⟨gb256, 0, none⟩) (Kd.R_types HO246.out BK256.out (by decide)) (fun _ hk => hk.2) (.slice Ao13 t249.length co13)) (fun _ hk => hk.2) (.slice Ao16 t252.length co16)) (fun _ h_ => h_.1)))); (case side8 => exact (Kd.R_reads' HO246.out).2.1); rintro e w22 ⟨rfl, hb⟩; refine ⟨_, rfl, ?_⟩; have n0_ := Aside0.mk (Kd.R_below (by (with_reducible repeat (first | apply Kd.R_alloc | apply Kd.R_drewN | apply Kd.R_drew)); exact (Kd.R_mono (Kd.R_far (p := ⟨gb256, 1, none⟩) (Kd.R_far (p := ⟨gb256, 0, none⟩) (Kd.R_types HO243.out BK256.out (by decide)) (fun _ hk => hk.2) (.slice Ao13 t249.length co13)) (fun _ hk => hk.2) (.slice Ao16 t252.length co16)) (fun _ h_ => h_.1))) hb); have n1_ := Aside0.mk (Kd.R_below (by (with_reducible repeat (first | apply Kd.R_alloc | apply Kd.R_drewN | apply Kd.R_drew)); exact (Kd.R_mono (Kd.R_far (p := ⟨gb256, 1, none⟩) (Kd.R_far (p := ⟨gb256, 0, none⟩) (Kd.R_types HO246.out BK256.out (by decide)) (fun _ hk => hk.2) (.slice Ao13 t249.length co13)) (fun _ hk => hk.2) (.slice Ao16 t252.length co16)) (fun _ h_ => h_.1))) hb); have n2_ := Aside0.mk (Kd.R_below (by (with_reducible repeat (first | apply Kd.R_alloc | apply Kd.R_drewN | apply Kd.R_drew)); exact (Kd.R_mono (Kd.R_far (p := ⟨gb256, 1, none⟩) (Kd.R_far (p := ⟨gb256, 0, none⟩) (Kd.R_types HO251.out BK256.out (by decide)) (fun _ hk => hk.2) (.slice Ao13 t249.length co13)) (fun _ hk => hk.2) (.slice Ao16 t252.length co16)) (fun _ h_ => h_.1))) hb); have n3_ := Aside0.mk (Kd.R_below (by (with_reducible repeat (first | apply Kd.R_alloc | apply Kd.R_drewN | apply Kd.R_drew)); exact (Kd.R_mono (Kd.R_far (p := ⟨gb256, 1, none⟩) (Kd.R_far (p := ⟨gb256, 0, none⟩) (Kd.R_types HO254.out BK256.out (by decide)) (fun _ hk => hk.2) (.slice Ao13 t249.length co13)) (fun _ hk => hk.2) (.slice Ao16 t252.length co16)) (fun _ h_ => h_.1))) hb); have n4_ := Aside0.mk (kbF BK248 hb); have n5_ := Aside0.mk (blk_below (g := gb256) (o := .cells #[.slice Ao13 t249.length co13, .slice Ao16 t252.length co16] 25 (0, 0)) (by (with_reducible repeat (first | refine blk_drewN ?_ _ | refine blk_drew ?_ | refine blk_alloc ?_ _)); refine blk_put (cs := #[.slice Ao13 t249.length co13, .slice none 0 0]) ?_ 1 _ rfl; (with_reducible repeat (first | refine blk_drewN ?_ _ | refine blk_drew ?_ | refine blk_alloc ?_ _)); refine blk_put (cs := #[.slice none 0 0, .slice none 0 0]) ?_ 0 _ rfl; (with_reducible repeat (first | refine blk_drewN ?_ _ | refine blk_drew ?_ | refine blk_alloc ?_ _)); exact BK256.out) hb); have n6_ := Aside0.mk (below_step (w := w) bW hb); clear HO243; clear HO246; clear HO251; clear HO254; clear BK248; clear BK256; clear HB; have HO243 := n0_; have HO246 := n1_; have HO251 := n2_; have HO254 := n3_; have BK248 := n4_; have BK256 := n5_; have HB := n6_; clear n0_ n1_ n2_ n3_ n4_ n5_ n6_; (try clear hb); (try clear hb2); (try clear hk); (try clear hi)))
        go_meet
        case rel => exact ⟨_, ((t255 != t247)), vE, H', ⟨by first | omega | exact Nat.le_refl _⟩, ⟨by (with_reducible repeat (first | apply Kd.R_alloc | apply Kd.R_drewN | apply Kd.R_drew)); exact Kd.R_mono HO243.out (fun _ hk => hk.2)⟩, ⟨by (with_reducible repeat (first | apply Kd.R_alloc | apply Kd.R_drewN | apply Kd.R_drew)); exact Kd.R_mono HO246.out (fun _ hk => hk.2)⟩, ⟨by (with_reducible repeat (first | apply Kd.R_alloc | apply Kd.R_drewN | apply Kd.R_drew)); exact Kd.R_mono HO251.out (fun _ hk => hk.2)⟩, ⟨by (with_reducible repeat (first | apply Kd.R_alloc | apply Kd.R_drewN | apply Kd.R_drew)); exact Kd.R_mono HO254.out (fun _ hk => hk.2)⟩, ⟨by (with_reducible repeat (first | refine blk_drewN ?_ _ | refine blk_drew ?_ | refine blk_alloc ?_ _)); exact BK248.out⟩, ⟨by (with_reducible repeat (first | refine blk_drewN ?_ _ | refine blk_drew ?_ | refine blk_alloc ?_ _)); exact BK256.out⟩, ⟨bW⟩⟩
      · replace c18 := Bool.eq_false_iff.mpr c18
        subst c18
        have H1 : (laws_FnExactDecodeCommit.j0 k a0 t247 true t241 t244 t249 t252) = some r := by rw [if_neg (show ¬ (false = true) by decide)] at H; exact H
        clear H
        have H := H1
        clear H1
        have H' := Aside0.mk H
        clear H
        have hnb23 := NB256_248.out
        have hnc23 := NB248_256.out
        have hcz24_0 : w12.cell? ⟨gb256, 0, none⟩ = some (.slice none 0 0) := (blk_cell BK256.out 0).trans rfl
        have hcz24_1 : w12.cell? ⟨gb256, 1, none⟩ = some (.slice none 0 0) := (blk_cell BK256.out 1).trans rfl
        have hfz24_0 := blk_frozen BK256.out 0
        have hfz24_1 := blk_frozen BK256.out 1
        have hcz25_0 : w12.cell? ⟨gb248, 0, none⟩ = some (.slice Ao8 t241.length co8) := (blk_cell BK248.out 0).trans rfl
        have hcz25_1 : w12.cell? ⟨gb248, 1, none⟩ = some (.slice Ao10 t244.length co10) := (blk_cell BK248.out 1).trans rfl
        have hfz25_0 := blk_frozen BK248.out 0
        have hfz25_1 := blk_frozen BK248.out 1
        go_wp2_with (first | ((with_reducible refine gate_callee (f := 8) rfl ?_); refine goesL_ (some 26) rfl rfl Try.func8 (by kernel_rfl) rfl #[.agg #[.slice Ao13 t249.length co13, .slice Ao16 t252.length co16], .agg #[.slice Ao8 t241.length co8, .slice Ao10 t244.length co10]] rfl gA ?_; (with_reducible refine (laws_eqCommit.calls k _ _ t249 _ _ t252 _ _ t241 _ _ t244 false _ ?side1 ?side2 ?side3 ?side4 ?side5 ?side6 ?side7 ?side8 A17.out).mono ?_); (case side1 => refine (Kd.R_reads' (e := 3) (base := w.heap.size) (ok := fun k_ => (True ∧ some k_ ≠ (.slice Ao8 t241.length co8 : Value).ownBlock)) (n := t249.length) (c := co13) ?_).2.2; exact (by (with_reducible repeat (first | apply Kd.R_alloc | apply Kd.R_drewN | apply Kd.R_drew)); exact (Kd.R_mono (Kd.R_far (p := ⟨gb256, 1, none⟩) (Kd.R_far (p := ⟨gb256, 0, none⟩) (Kd.R_types HO251.out BK256.out (by decide)) (fun _ hk => hk.2) (.slice Ao13 t249.length co13)) (fun _ hk => hk.2) (.slice Ao16 t252.length co16)) (fun _ h_ => h_.1)))); (case side2 => exact (Kd.R_reads' HO251.out).2.1); (case side3 => refine (Kd.R_reads' (e := 90) (base := w.heap.size) (ok := fun k_ => (True ∧ some k_ ≠ (.slice Ao10 t244.length co10 : Value).ownBlock)) (n := t252.length) (c := co16) ?_).2.2; exact (by (with_reducible repeat (first | apply Kd.R_alloc | apply Kd.R_drewN | apply Kd.R_drew)); exact (Kd.R_mono (Kd.R_far (p := ⟨gb256, 1, none⟩) (Kd.R_far (p := ⟨gb256, 0, none⟩) (Kd.R_types HO254.out BK256.out (by decide)) (fun _ hk => hk.2) (.slice Ao13 t249.length co13)) (fun _ hk => hk.2) (.slice Ao16 t252.length co16)) (fun _ h_ => h_.1)))); (case side4 => exact (Kd.R_reads' HO254.out).2.1); (case side5 => refine (Kd.R_reads' (e := 3) (base := w.heap.size) (ok := fun k_ => (True ∧ some k_ ≠ (.slice Ao13 t249.length co13 : Value).ownBlock)) (n := t241.length) (c := co8) ?_).2.2; exact (by (with_reducible repeat (first | apply Kd.R_alloc | apply Kd.R_drewN | apply Kd.R_drew)); exact (Kd.R_mono (Kd.R_far (p := ⟨gb256, 1, none⟩) (Kd.R_far (p := ⟨gb256, 0, none⟩) (Kd.R_types HO243.out BK256.out (by decide)) (fun _ hk => hk.2) (.slice Ao13 t249.length co13)) (fun _ hk => hk.2) (.slice Ao16 t252.length co16)) (fun _ h_ => h_.1)))); (case side6 => exact (Kd.R_reads' HO243.out).2.1); (case side7 => refine (Kd.R_reads' (e := 90) (base := w.heap.size) (ok := fun k_ => (True ∧ some k_ ≠ (.slice Ao16 t252.length co16 : Value).ownBlock)) (n := t244.length) (c := co10) ?_).2.2; exact (by (with_reducible repeat (first | apply Kd.R_alloc | apply Kd.R_drewN | apply Kd.R_drew)); exact (Kd.R_mono (Kd.R_far (p := ⟨gb256, 1, none⟩) (Kd.R_far (p := ⟨gb256, 0, none⟩) (Kd.R_types HO246.out BK256.out (by decide)) (fun _ hk => hk.2) (.slice Ao13 t249.length co13)) (fun _ hk => hk.2) (.slice Ao16 t252.length co16)) (fun _ h_ => h_.1)))); (case side8 => exact (Kd.R_reads' HO246.out).2.1); rintro e w26 ⟨rfl, hb⟩; refine ⟨_, rfl, ?_⟩; have n0_ := Aside0.mk (Kd.R_below (by (with_reducible repeat (first | apply Kd.R_alloc | apply Kd.R_drewN | apply Kd.R_drew)); exact (Kd.R_mono (Kd.R_far (p := ⟨gb256, 1, none⟩) (Kd.R_far (p := ⟨gb256, 0, none⟩) (Kd.R_types HO243.out BK256.out (by decide)) (fun _ hk => hk.2) (.slice Ao13 t249.length co13)) (fun _ hk => hk.2) (.slice Ao16 t252.length co16)) (fun _ h_ => h_.1))) hb); have n1_ := Aside0.mk (Kd.R_below (by (with_reducible repeat (first | apply Kd.R_alloc | apply Kd.R_drewN | apply Kd.R_drew)); exact (Kd.R_mono (Kd.R_far (p := ⟨gb256, 1, none⟩) (Kd.R_far (p := ⟨gb256, 0, none⟩) (Kd.R_types HO246.out BK256.out (by decide)) (fun _ hk => hk.2) (.slice Ao13 t249.length co13)) (fun _ hk => hk.2) (.slice Ao16 t252.length co16)) (fun _ h_ => h_.1))) hb); have n2_ := Aside0.mk (Kd.R_below (by (with_reducible repeat (first | apply Kd.R_alloc | apply Kd.R_drewN | apply Kd.R_drew)); exact (Kd.R_mono (Kd.R_far (p := ⟨gb256, 1, none⟩) (Kd.R_far (p := ⟨gb256, 0, none⟩) (Kd.R_types HO251.out BK256.out (by decide)) (fun _ hk => hk.2) (.slice Ao13 t249.length co13)) (fun _ hk => hk.2) (.slice Ao16 t252.length co16)) (fun _ h_ => h_.1))) hb); have n3_ := Aside0.mk (Kd.R_below (by (with_reducible repeat (first | apply Kd.R_alloc | apply Kd.R_drewN | apply Kd.R_drew)); exact (Kd.R_mono (Kd.R_far (p := ⟨gb256, 1, none⟩) (Kd.R_far (p := ⟨gb256, 0, none⟩) (Kd.R_types HO254.out BK256.out (by decide)) (fun _ hk => hk.2) (.slice Ao13 t249.length co13)) (fun _ hk => hk.2) (.slice Ao16 t252.length co16)) (fun _ h_ => h_.1))) hb); have n4_ := Aside0.mk (kbF BK248 hb); have n5_ := Aside0.mk (blk_below (g := gb256) (o := .cells #[.slice Ao13 t249.length co13, .slice Ao16 t252.length co16] 25 (0, 0)) (by (with_reducible repeat (first | refine blk_drewN ?_ _ | refine blk_drew ?_ | refine blk_alloc ?_ _)); refine blk_put (cs := #[.slice Ao13 t249.length co13, .slice none 0 0]) ?_ 1 _ rfl; (with_reducible repeat (first | refine blk_drewN ?_ _ | refine blk_drew ?_ | refine blk_alloc ?_ _)); refine blk_put (cs := #[.slice none 0 0, .slice none 0 0]) ?_ 0 _ rfl; (with_reducible repeat (first | refine blk_drewN ?_ _ | refine blk_drew ?_ | refine blk_alloc ?_ _)); exact BK256.out) hb); have n6_ := Aside0.mk (below_step (w := w) bW hb); clear HO243; clear HO246; clear HO251; clear HO254; clear BK248; clear BK256; clear HB; have HO243 := n0_; have HO246 := n1_; have HO251 := n2_; have HO254 := n3_; have BK248 := n4_; have BK256 := n5_; have HB := n6_; clear n0_ n1_ n2_ n3_ n4_ n5_ n6_; (try clear hb); (try clear hb2); (try clear hk); (try clear hi)))
        go_meet
        case rel => exact ⟨_, (true), vE, H', ⟨by first | omega | exact Nat.le_refl _⟩, ⟨by (with_reducible repeat (first | apply Kd.R_alloc | apply Kd.R_drewN | apply Kd.R_drew)); exact Kd.R_mono HO243.out (fun _ hk => hk.2)⟩, ⟨by (with_reducible repeat (first | apply Kd.R_alloc | apply Kd.R_drewN | apply Kd.R_drew)); exact Kd.R_mono HO246.out (fun _ hk => hk.2)⟩, ⟨by (with_reducible repeat (first | apply Kd.R_alloc | apply Kd.R_drewN | apply Kd.R_drew)); exact Kd.R_mono HO251.out (fun _ hk => hk.2)⟩, ⟨by (with_reducible repeat (first | apply Kd.R_alloc | apply Kd.R_drewN | apply Kd.R_drew)); exact Kd.R_mono HO254.out (fun _ hk => hk.2)⟩, ⟨by (with_reducible repeat (first | refine blk_drewN ?_ _ | refine blk_drew ?_ | refine blk_alloc ?_ _)); exact BK248.out⟩, ⟨by (with_reducible repeat (first | refine blk_drewN ?_ _ | refine blk_drew ?_ | refine blk_alloc ?_ _)); exact BK256.out⟩, ⟨bW⟩⟩
    case rest =>
      clear HC5
      try clear c1
      try clear c2
      try clear c2b0
      try clear c2b1
      try clear p2
      try clear c3
      try clear c6
      try clear c7
      try clear c8
      try clear c14
      try clear c18
      try clear c19
      try clear c23
      try clear hcz15_0
      try clear hcz15_1
      try clear hcz20_0
      try clear hcz20_1
      try clear hcz21_0
      try clear hcz21_1
      try clear hcz24_0
      try clear hcz24_1
      try clear hcz25_0
      try clear hcz25_1
      try clear hcz9_0
      try clear hcz9_1
      try clear hfz15_0
      try clear hfz15_1
      try clear hfz20_0
      try clear hfz20_1
      try clear hfz21_0
      try clear hfz21_1
      try clear hfz24_0
      try clear hfz24_1
      try clear hfz25_0
      try clear hfz25_1
      try clear hfz9_0
      try clear hfz9_1
      obtain ⟨kq, x32_4, rfl, HA, HJ4, HO_249000, HO_249001, HO_257000, HO_257001, BK248, BK256, HB⟩ := hcut
      cases kq with
      | zero => exact absurd HA.out (by simp [laws_FnExactDecodeCommit.j0])
      | succ kj4 =>
        have H := HA.out
        clear HA
        simp only [laws_FnExactDecodeCommit.j0] at H
        by_cases c27 : x32_4 = true
        · subst c27
          have H1 : (some false) = some r := by rw [if_pos rfl] at H; exact H
          clear H
          have H := H1
          clear H1
          obtain rfl := Option.some.inj H
          go_wp2
          go_ret
          exact ⟨rE, bW⟩
        · replace c27 := Bool.eq_false_iff.mpr c27
          subst c27
          have H1 : ((laws_markCommit.f kj4 t249 t252 1).bind fun bt258 => ((laws_heldCommit.f kj4 bt258.2.1 bt258.2.2 1).bind fun t261 => (if t261 < 0 then (some false) else (if t261 = bt258.1 then ((impl_DecodeCommit.f kj4 a0).bind fun bt262 => ((laws_eqCommit.f kj4 bt262.1 bt262.2.1 t241 t244).bind fun t270 => (if t270 = true then (laws_FnExactDecodeCommit.j1 kj4 bt258.1 (bt262.2.2 != t247) bt258.2.1 bt258.2.2) else (laws_FnExactDecodeCommit.j1 kj4 bt258.1 true bt258.2.1 bt258.2.2)))) else (some false))))) = some r := by rw [if_neg (show ¬ (false = true) by decide)] at H; exact H
          clear H
          have H := H1
          clear H1
          replace H := Option.bind_eq_some_iff.mp H
          obtain ⟨⟨t258, t259, t260⟩, A280, H⟩ := H
          replace H : ((laws_heldCommit.f kj4 t259 t260 1).bind fun t261 => (if t261 < 0 then (some false) else (if t261 = t258 then ((impl_DecodeCommit.f kj4 a0).bind fun bt262 => ((laws_eqCommit.f kj4 bt262.1 bt262.2.1 t241 t244).bind fun t270 => (if t270 = true then (laws_FnExactDecodeCommit.j1 kj4 t258 (bt262.2.2 != t247) t259 t260) else (laws_FnExactDecodeCommit.j1 kj4 t258 true t259 t260)))) else (some false)))) = some r := H
          have A28 := Aside0.mk A280
          clear A280
          replace H := Option.bind_eq_some_iff.mp H
          obtain ⟨t261, A290, H⟩ := H
          replace H : (if t261 < 0 then (some false) else (if t261 = t258 then ((impl_DecodeCommit.f kj4 a0).bind fun bt262 => ((laws_eqCommit.f kj4 bt262.1 bt262.2.1 t241 t244).bind fun t270 => (if t270 = true then (laws_FnExactDecodeCommit.j1 kj4 t258 (bt262.2.2 != t247) t259 t260) else (laws_FnExactDecodeCommit.j1 kj4 t258 true t259 t260)))) else (some false))) = some r := H
          have A29 := Aside0.mk A290
          clear A290
          by_cases c30 : t261 < 0
          · rw [if_pos c30] at H
            have c30b0 : decide (t261 < 0) = true := decide_eq_true c30
            clear c30
            obtain rfl := Option.some.inj H
            have hnb31 := NB256_248.out
            have hnc31 := NB248_256.out
            have hcz32_0 : wc.cell? ⟨gb256, 0, none⟩ = some (.slice Ao13 t249.length co13) := (blk_cell BK256.out 0).trans rfl
            have hcz32_1 : wc.cell? ⟨gb256, 1, none⟩ = some (.slice Ao16 t252.length co16) := (blk_cell BK256.out 1).trans rfl
            have hfz32_0 := blk_frozen BK256.out 0
            have hfz32_1 := blk_frozen BK256.out 1
            go_wp2_with (first | ((with_reducible refine gate_callee (f := 9) rfl ?_); refine goesL_ (some 35) rfl rfl Try.func9 (by kernel_rfl) rfl #[.agg #[.slice Ao13 t249.length co13, .slice Ao16 t252.length co16], .int .i64 1] rfl gA ?_; (with_reducible refine (laws_markCommit.calls kj4 (fun k_ => some k_ = (.slice Ao13 t249.length co13 : Value).ownBlock) (.slice Ao13 t249.length co13) t249 (fun k_ => some k_ = (.slice Ao16 t252.length co16 : Value).ownBlock) (.slice Ao16 t252.length co16) t252 1 t258 t259 t260 w _ ?side1 ?side2 ?side3 A28.out).mono ?_); (case side1 => repeat (first | (with_reducible first | exact HB.out | apply below_alloc | apply pw_below_drewN | apply below_drew1 | refine below_set ?_ GE248.out | refine below_set ?_ GE256.out) | exact HB.out)); (case side2 => exact Kd.R_tight rfl HO_257000.out); (case side3 => exact Kd.R_tight rfl HO_257001.out); rintro e w33 ⟨rfl, hy0, hy1, hb, hkp⟩; refine ⟨_, rfl, ?_⟩; have n0_ := Aside0.mk (Kd.R_mono (ok' := fun k_ => some k_ ≠ (.slice Ao13 t249.length co13 : Value).ownBlock) (Kd.R_keptB ((Kd.R_apart' HO_249000.out (Kd.R_typed HO_257001.out) (by decide))) hkp (fun k_ hk_ hs_ => Or.elim hs_ (fun e_ => (hk_.1) e_) (fun e_ => (hk_.2) e_))) (fun k_ hk_ => hk_.1.1)); have n1_ := Aside0.mk (Kd.R_mono (ok' := fun k_ => some k_ ≠ (.slice Ao16 t252.length co16 : Value).ownBlock) (Kd.R_keptB ((Kd.R_apart' HO_249001.out (Kd.R_typed HO_257000.out) (by decide))) hkp (fun k_ hk_ hs_ => Or.elim hs_ (fun e_ => (hk_.2) e_) (fun e_ => (hk_.1) e_))) (fun k_ hk_ => hk_.1.1)); have n2_ := Aside0.mk (Kd.R_reok rfl hy0 (fun k_ e_ => HO_257000.out.1 k_ e_)); have n3_ := Aside0.mk (Kd.R_reok rfl hy1 (fun k_ e_ => HO_257001.out.1 k_ e_)); have n4_ := Aside0.mk (blk_kept (kB BK248) hkp (fun hs_ => Or.elim hs_ (fun e_ => (fun e_ => (Kd.R_ne HO_257000.out BK248.out (by decide)) e_) e_) (fun e_ => (fun e_ => (Kd.R_ne HO_257001.out BK248.out (by decide)) e_) e_))); have n5_ := Aside0.mk (blk_kept (kB BK256) hkp (fun hs_ => Or.elim hs_ (fun e_ => (fun e_ => (Kd.R_ne HO_257000.out BK256.out (by decide)) e_) e_) (fun e_ => (fun e_ => (Kd.R_ne HO_257001.out BK256.out (by decide)) e_) e_))); have n6_ := Aside0.mk (hb); clear HO_249000; clear HO_249001; clear HO_257000; clear HO_257001; clear BK248; clear BK256; clear HB; have HO_249000 := n0_; have HO_249001 := n1_; have HO_257000 := n2_; have HO_257001 := n3_; have BK248 := n4_; have BK256 := n5_; have HB := n6_; clear n0_ n1_ n2_ n3_ n4_ n5_ n6_; (try clear hb); (try clear hkp); (try clear hy0); (try clear hy1); obtain ⟨hcz34_0, hcz34_1⟩ := cz2 BK256; obtain ⟨hfz34_0, hfz34_1⟩ := fz2 BK256) | ((with_reducible refine gate_callee (f := 10) rfl ?_); refine goesL_ (some 38) rfl rfl Try.func10 (by kernel_rfl) rfl #[.agg #[.slice Ao13 t259.length co13, .slice Ao16 t260.length co16], .int .i64 1] rfl (by (try simp only [List.map_toArray, List.map_cons, List.map_nil]); first | done | (rw [show t259.length = t249.length from (Kd.R_reads' HO_257000.out).1.symm, show t260.length = t252.length from (Kd.R_reads' HO_257001.out).1.symm] <;> rfl) | rfl | (simp only [List.length_drop, List.length_take]; rfl)) ?_; (with_reducible refine (laws_heldCommit.calls kj4 _ _ t259 _ _ t260 1 t261 _ ?side1 ?side2 ?side3 ?side4 A29.out).mono ?_); (case side1 => repeat (first | exact (Kd.R_reads' HO_257000.out).2.2 | (with_reducible refine Kd.C_alloc ?_ _) | (with_reducible refine Kd.C_drewN ?_ _) | (with_reducible refine Kd.C_drew ?_))); (case side2 => rw [show t259.length = t249.length from (Kd.R_reads' HO_257000.out).1.symm]; exact (Kd.R_reads' HO_257000.out).2.1); (case side3 => repeat (first | exact (Kd.R_reads' HO_257001.out).2.2 | (with_reducible refine Kd.C_alloc ?_ _) | (with_reducible refine Kd.C_drewN ?_ _) | (with_reducible refine Kd.C_drew ?_))); (case side4 => rw [show t260.length = t252.length from (Kd.R_reads' HO_257001.out).1.symm]; exact (Kd.R_reads' HO_257001.out).2.1); rintro e w35 ⟨rfl, hb⟩; refine ⟨_, rfl, ?_⟩; have n0_ := Aside0.mk (Kd.R_below (pR HO_249000) hb); have n1_ := Aside0.mk (Kd.R_below (pR HO_249001) hb); have n2_ := Aside0.mk (Kd.R_below (pR HO_257000) hb); have n3_ := Aside0.mk (Kd.R_below (pR HO_257001) hb); have n4_ := Aside0.mk (kb BK248 hb); have n5_ := Aside0.mk (kb BK256 hb); have n6_ := Aside0.mk (below_step (w := w) bW hb); clear HO_249000; clear HO_249001; clear HO_257000; clear HO_257001; clear BK248; clear BK256; clear HB; have HO_249000 := n0_; have HO_249001 := n1_; have HO_257000 := n2_; have HO_257001 := n3_; have BK248 := n4_; have BK256 := n5_; have HB := n6_; clear n0_ n1_ n2_ n3_ n4_ n5_ n6_; (try clear hb); (try clear hb2); (try clear hk); (try clear hi)))
            go_ret
            exact ⟨rE, bW⟩
          · rw [if_neg c30] at H
            have c30b0 : decide (t261 < 0) = false := decide_eq_false c30
            clear c30
            by_cases c36 : t261 = t258
            · rw [if_pos c36] at H
              have c36b0 : (t261 == t258) = true := beq_iff_eq.mpr c36
              have c36b1 : (t261 != t258) = false := bne_eq_false_iff_eq.mpr c36
              clear c36
              replace H := Option.bind_eq_some_iff.mp H
              obtain ⟨⟨t262, t265, t268⟩, A370, H⟩ := H
              replace H : ((laws_eqCommit.f kj4 t262 t265 t241 t244).bind fun t270 => (if t270 = true then (laws_FnExactDecodeCommit.j1 kj4 t258 (t268 != t247) t259 t260) else (laws_FnExactDecodeCommit.j1 kj4 t258 true t259 t260))) = some r := H
              have A37 := Aside0.mk A370
              clear A370
              have HC38 := Aside0.mk H
              clear H
              have hnb39 := NB256_248.out
              have hnc39 := NB248_256.out
              have hcz40_0 : wc.cell? ⟨gb256, 0, none⟩ = some (.slice Ao13 t249.length co13) := (blk_cell BK256.out 0).trans rfl
              have hcz40_1 : wc.cell? ⟨gb256, 1, none⟩ = some (.slice Ao16 t252.length co16) := (blk_cell BK256.out 1).trans rfl
              have hfz40_0 := blk_frozen BK256.out 0
              have hfz40_1 := blk_frozen BK256.out 1
              go_upto_region 16 with (first | ((with_reducible refine gate_callee (f := 9) rfl ?_); refine goesL_ (some 35) rfl rfl Try.func9 (by kernel_rfl) rfl #[.agg #[.slice Ao13 t249.length co13, .slice Ao16 t252.length co16], .int .i64 1] rfl gA ?_; (with_reducible refine (laws_markCommit.calls kj4 (fun k_ => some k_ = (.slice Ao13 t249.length co13 : Value).ownBlock) (.slice Ao13 t249.length co13) t249 (fun k_ => some k_ = (.slice Ao16 t252.length co16 : Value).ownBlock) (.slice Ao16 t252.length co16) t252 1 t258 t259 t260 w _ ?side1 ?side2 ?side3 A28.out).mono ?_); (case side1 => repeat (first | (with_reducible first | exact HB.out | apply below_alloc | apply pw_below_drewN | apply below_drew1 | refine below_set ?_ GE248.out | refine below_set ?_ GE256.out) | exact HB.out)); (case side2 => exact Kd.R_tight rfl HO_257000.out); (case side3 => exact Kd.R_tight rfl HO_257001.out); rintro e w41 ⟨rfl, hy0, hy1, hb, hkp⟩; refine ⟨_, rfl, ?_⟩; have n0_ := Aside0.mk (Kd.R_mono (ok' := fun k_ => some k_ ≠ (.slice Ao13 t249.length co13 : Value).ownBlock) (Kd.R_keptB ((Kd.R_apart' HO_249000.out (Kd.R_typed HO_257001.out) (by decide))) hkp (fun k_ hk_ hs_ => Or.elim hs_ (fun e_ => (hk_.1) e_) (fun e_ => (hk_.2) e_))) (fun k_ hk_ => hk_.1.1)); have n1_ := Aside0.mk (Kd.R_mono (ok' := fun k_ => some k_ ≠ (.slice Ao16 t252.length co16 : Value).ownBlock) (Kd.R_keptB ((Kd.R_apart' HO_249001.out (Kd.R_typed HO_257000.out) (by decide))) hkp (fun k_ hk_ hs_ => Or.elim hs_ (fun e_ => (hk_.2) e_) (fun e_ => (hk_.1) e_))) (fun k_ hk_ => hk_.1.1)); have n2_ := Aside0.mk (Kd.R_reok rfl hy0 (fun k_ e_ => HO_257000.out.1 k_ e_)); have n3_ := Aside0.mk (Kd.R_reok rfl hy1 (fun k_ e_ => HO_257001.out.1 k_ e_)); have n4_ := Aside0.mk (blk_kept (kB BK248) hkp (fun hs_ => Or.elim hs_ (fun e_ => (fun e_ => (Kd.R_ne HO_257000.out BK248.out (by decide)) e_) e_) (fun e_ => (fun e_ => (Kd.R_ne HO_257001.out BK248.out (by decide)) e_) e_))); have n5_ := Aside0.mk (blk_kept (kB BK256) hkp (fun hs_ => Or.elim hs_ (fun e_ => (fun e_ => (Kd.R_ne HO_257000.out BK256.out (by decide)) e_) e_) (fun e_ => (fun e_ => (Kd.R_ne HO_257001.out BK256.out (by decide)) e_) e_))); have n6_ := Aside0.mk (hb); clear HO_249000; clear HO_249001; clear HO_257000; clear HO_257001; clear BK248; clear BK256; clear HB; have HO_249000 := n0_; have HO_249001 := n1_; have HO_257000 := n2_; have HO_257001 := n3_; have BK248 := n4_; have BK256 := n5_; have HB := n6_; clear n0_ n1_ n2_ n3_ n4_ n5_ n6_; (try clear hb); (try clear hkp); (try clear hy0); (try clear hy1); obtain ⟨hcz42_0, hcz42_1⟩ := cz2 BK256; obtain ⟨hfz42_0, hfz42_1⟩ := fz2 BK256) | ((with_reducible refine gate_callee (f := 10) rfl ?_); refine goesL_ (some 38) rfl rfl Try.func10 (by kernel_rfl) rfl #[.agg #[.slice Ao13 t259.length co13, .slice Ao16 t260.length co16], .int .i64 1] rfl (by (try simp only [List.map_toArray, List.map_cons, List.map_nil]); first | done | (rw [show t259.length = t249.length from (Kd.R_reads' HO_257000.out).1.symm, show t260.length = t252.length from (Kd.R_reads' HO_257001.out).1.symm] <;> rfl) | rfl | (simp only [List.length_drop, List.length_take]; rfl)) ?_; (with_reducible refine (laws_heldCommit.calls kj4 _ _ t259 _ _ t260 1 t261 _ ?side1 ?side2 ?side3 ?side4 A29.out).mono ?_); (case side1 => repeat (first | exact (Kd.R_reads' HO_257000.out).2.2 | (with_reducible refine Kd.C_alloc ?_ _) | (with_reducible refine Kd.C_drewN ?_ _) | (with_reducible refine Kd.C_drew ?_))); (case side2 => rw [show t259.length = t249.length from (Kd.R_reads' HO_257000.out).1.symm]; exact (Kd.R_reads' HO_257000.out).2.1); (case side3 => repeat (first | exact (Kd.R_reads' HO_257001.out).2.2 | (with_reducible refine Kd.C_alloc ?_ _) | (with_reducible refine Kd.C_drewN ?_ _) | (with_reducible refine Kd.C_drew ?_))); (case side4 => rw [show t260.length = t252.length from (Kd.R_reads' HO_257001.out).1.symm]; exact (Kd.R_reads' HO_257001.out).2.1); rintro e w43 ⟨rfl, hb⟩; refine ⟨_, rfl, ?_⟩; have n0_ := Aside0.mk (Kd.R_below (pR HO_249000) hb); have n1_ := Aside0.mk (Kd.R_below (pR HO_249001) hb); have n2_ := Aside0.mk (Kd.R_below (pR HO_257000) hb); have n3_ := Aside0.mk (Kd.R_below (pR HO_257001) hb); have n4_ := Aside0.mk (kb BK248 hb); have n5_ := Aside0.mk (kb BK256 hb); have n6_ := Aside0.mk (below_step (w := w) bW hb); clear HO_249000; clear HO_249001; clear HO_257000; clear HO_257001; clear BK248; clear BK256; clear HB; have HO_249000 := n0_; have HO_249001 := n1_; have HO_257000 := n2_; have HO_257001 := n3_; have BK248 := n4_; have BK256 := n5_; have HB := n6_; clear n0_ n1_ n2_ n3_ n4_ n5_ n6_; (try clear hb); (try clear hb2); (try clear hk); (try clear hi)) | ((with_reducible refine gate_callee (f := 7) rfl ?_); refine goesL_ (some 46) rfl rfl Try.func7 (by kernel_rfl) rfl #[.string a0] rfl gA ?_; (with_reducible refine (impl_DecodeCommit.calls kj4 a0 t262 t265 t268 _ A37.out).mono ?_); rintro e w44 ⟨v263, v266, rfl, ho0, ho1, hb⟩; refine ⟨_, rfl, ?_⟩; have n0_ := Aside0.mk (Kd.R_elder' (pR HO_249000) (Kd.R_base ho0) hb); have n1_ := Aside0.mk (Kd.R_elder' (pR HO_249001) (Kd.R_base ho1) hb); have n2_ := Aside0.mk (Kd.R_elder' (pR HO_257000) (Kd.R_base ho0) hb); have n3_ := Aside0.mk (Kd.R_elder' (pR HO_257001) (Kd.R_base ho1) hb); have n4_ := Aside0.mk (Kd.R_lower (Kd.R_new' (Kd.R_new' ho0 (Kd.R_lt (pR HO_249000))) (Kd.R_lt (pR HO_257000))) (below_size (w := w) bW)); have n5_ := Aside0.mk (Kd.R_lower (Kd.R_new' (Kd.R_new' ho1 (Kd.R_lt (pR HO_249001))) (Kd.R_lt (pR HO_257001))) (below_size (w := w) bW)); have n6_ := Aside0.mk (kb BK248 hb); have n7_ := Aside0.mk (kb BK256 hb); have n8_ := Aside0.mk (below_step (w := w) bW hb); clear HO_249000; clear HO_249001; clear HO_257000; clear HO_257001; clear BK248; clear BK256; clear HB; have HO_249000 := n0_; have HO_249001 := n1_; have HO_257000 := n2_; have HO_257001 := n3_; have HO264 := n4_; have HO267 := n5_; have BK248 := n6_; have BK256 := n7_; have HB := n8_; clear n0_ n1_ n2_ n3_ n4_ n5_ n6_ n7_ n8_; (try clear hb); (try clear hb2); (try clear hk); (try clear hi); (try clear ho0); (try clear ho1)) | ((with_reducible refine gate_dst (N := 9) rfl ?_); refine bE (N := 9) (cs := #[.slice none 0 0, .slice none 0 0]) (t := 25) ?_; intro gb269 hg w45 hbox hb; have n0_ := Aside0.mk (Kd.R_below (pR HO_249000) hb); have n1_ := Aside0.mk (Kd.R_below (pR HO_249001) hb); have n2_ := Aside0.mk (Kd.R_below (pR HO_257000) hb); have n3_ := Aside0.mk (Kd.R_below (pR HO_257001) hb); have n4_ := Aside0.mk (Kd.R_below (pR HO264) hb); have n5_ := Aside0.mk (Kd.R_below (pR HO267) hb); have n6_ := Aside0.mk (kb BK248 hb); have n7_ := Aside0.mk (kb BK256 hb); have n8_ := Aside0.mk (below_step (w := w) bW hb); have n9_ := Aside0.mk (hbox); have n10_ := Aside0.mk (gS (w := w) hg); have n11_ := n10_; have n12_ := Aside0.mk (nL BK248 hg); have n13_ := Aside0.mk (nG BK248 hg); have n14_ := Aside0.mk (nL BK256 hg); have n15_ := Aside0.mk (nG BK256 hg); clear HO_249000; clear HO_249001; clear HO_257000; clear HO_257001; clear HO264; clear HO267; clear BK248; clear BK256; clear HB; have HO_249000 := n0_; have HO_249001 := n1_; have HO_257000 := n2_; have HO_257001 := n3_; have HO264 := n4_; have HO267 := n5_; have BK248 := n6_; have BK256 := n7_; have HB := n8_; have BK269 := n9_; have GW269 := n10_; have GE269 := n11_; have NB248_269 := n12_; have NB269_248 := n13_; have NB256_269 := n14_; have NB269_256 := n15_; clear n0_ n1_ n2_ n3_ n4_ n5_ n6_ n7_ n8_ n9_ n10_ n11_ n12_ n13_ n14_ n15_; clear hb hbox hg; obtain ⟨Ao46, co46, eo46⟩ := Kd.R_slice HO264.out; subst eo46; have hnb47 := NB269_248.out; have hnc47 := NB248_269.out; have hnb48 := NB269_256.out; have hnc48 := NB256_269.out; obtain ⟨hcz49_0, hcz49_1⟩ := cz2 BK269; obtain ⟨hfz49_0, hfz49_1⟩ := fz2 BK269; obtain ⟨Ao50, co50, eo50⟩ := Kd.R_slice HO267.out; subst eo50))
              (try simp only [Act.put, List.setIfInBounds_toArray, List.set_cons_zero, List.set_cons_succ])
              go_cut [57] (fun v57 wc => ∃ (kq : Nat) (x57_37 : Bool), v57 = .bool x57_37 ∧ Aside0 (laws_FnExactDecodeCommit.j1 kq t258 x57_37 t259 t260 = some r) ∧ Aside0 (kq ≤ kj4) ∧ Aside0 (Kd.R (Kd.int .i64) 3 wc w.heap.size (fun k_ => some k_ ≠ ((.slice Ao13 t249.length co13) : Value).ownBlock ∧ some k_ ≠ ((.slice Ao46 t262.length co46) : Value).ownBlock) (.slice Ao8 t241.length co8) t241) ∧ Aside0 (Kd.R k90 90 wc w.heap.size (fun k_ => some k_ ≠ ((.slice Ao16 t252.length co16) : Value).ownBlock ∧ some k_ ≠ ((.slice Ao50 t265.length co50) : Value).ownBlock) (.slice Ao10 t244.length co10) t244) ∧ Aside0 (Kd.R (Kd.int .i64) 3 wc w.heap.size (fun k_ => some k_ ≠ ((.slice Ao8 t241.length co8) : Value).ownBlock ∧ some k_ ≠ ((.slice Ao46 t262.length co46) : Value).ownBlock) (.slice Ao13 t249.length co13) t259) ∧ Aside0 (Kd.R k90 90 wc w.heap.size (fun k_ => some k_ ≠ ((.slice Ao10 t244.length co10) : Value).ownBlock ∧ some k_ ≠ ((.slice Ao50 t265.length co50) : Value).ownBlock) (.slice Ao16 t252.length co16) t260) ∧ Aside0 (Kd.R (Kd.int .i64) 3 wc w.heap.size (fun k_ => some k_ ≠ ((.slice Ao8 t241.length co8) : Value).ownBlock ∧ some k_ ≠ ((.slice Ao13 t249.length co13) : Value).ownBlock) (.slice Ao46 t262.length co46) t262) ∧ Aside0 (Kd.R k90 90 wc w.heap.size (fun k_ => some k_ ≠ ((.slice Ao10 t244.length co10) : Value).ownBlock ∧ some k_ ≠ ((.slice Ao16 t252.length co16) : Value).ownBlock) (.slice Ao50 t265.length co50) t265) ∧ Aside0 (wc.heap[gb248]? = some (.cells #[(.slice Ao8 t241.length co8), (.slice Ao10 t244.length co10)] 25 (0, 0))) ∧ Aside0 (wc.heap[gb256]? = some (.cells #[(.slice Ao13 t249.length co13), (.slice Ao16 t252.length co16)] 25 (0, 0))) ∧ Aside0 (wc.heap[gb269]? = some (.cells #[(.slice Ao46 t262.length co46), (.slice Ao50 t265.length co50)] 25 (0, 0))) ∧ Aside0 (Below w.heap.size w wc))
              case first =>
                have H := HC38.out
                clear HC38
                replace H := Option.bind_eq_some_iff.mp H
                obtain ⟨t270, A510, H⟩ := H
                replace H : (if t270 = true then (laws_FnExactDecodeCommit.j1 kj4 t258 (t268 != t247) t259 t260) else (laws_FnExactDecodeCommit.j1 kj4 t258 true t259 t260)) = some r := H
                have A51 := Aside0.mk A510
                clear A510
                by_cases c52 : t270 = true
                · subst c52
                  have H1 : (laws_FnExactDecodeCommit.j1 kj4 t258 (t268 != t247) t259 t260) = some r := by rw [if_pos rfl] at H; exact H
                  clear H
                  have H := H1
                  clear H1
                  have H' := Aside0.mk H
                  clear H
                  have hnb53 := NB269_248.out
                  have hnc53 := NB248_269.out
                  have hnb54 := NB269_256.out
                  have hnc54 := NB256_269.out
                  have hcz55_0 : w45.cell? ⟨gb269, 0, none⟩ = some (.slice none 0 0) := (blk_cell BK269.out 0).trans rfl
                  have hcz55_1 : w45.cell? ⟨gb269, 1, none⟩ = some (.slice none 0 0) := (blk_cell BK269.out 1).trans rfl
                  have hfz55_0 := blk_frozen BK269.out 0
                  have hfz55_1 := blk_frozen BK269.out 1
                  have hnb56 := NB248_256.out
                  have hnc56 := NB256_248.out
                  have hcz57_0 : w45.cell? ⟨gb248, 0, none⟩ = some (.slice Ao8 t241.length co8) := (blk_cell BK248.out 0).trans rfl
                  have hcz57_1 : w45.cell? ⟨gb248, 1, none⟩ = some (.slice Ao10 t244.length co10) := (blk_cell BK248.out 1).trans rfl
                  have hfz57_0 := blk_frozen BK248.out 0
                  have hfz57_1 := blk_frozen BK248.out 1
                  go_wp2_with (first | ((with_reducible refine gate_callee (f := 8) rfl ?_); refine goesL_ (some 51) rfl rfl Try.func8 (by kernel_rfl) rfl #[.agg #[.slice Ao46 t262.length co46, .slice Ao50 t265.length co50], .agg #[.slice Ao8 t241.length co8, .slice Ao10 t244.length co10]] rfl gA ?_; (with_reducible refine (laws_eqCommit.calls kj4 _ _ t262 _ _ t265 _ _ t241 _ _ t244 true _ ?side1 ?side2 ?side3 ?side4 ?side5 ?side6 ?side7 ?side8 A51.out).mono ?_); (case side1 => refine (Kd.R_reads' (e := 3) (base := w.heap.size) (ok := fun k_ => ((True ∧ some k_ ≠ (.slice Ao8 t241.length co8 : Value).ownBlock) ∧ some k_ ≠ (.slice Ao13 t249.length co13 : Value).ownBlock)) (n := t262.length) (c := co46) ?_).2.2; exact (by (with_reducible repeat (first | apply Kd.R_alloc | apply Kd.R_drewN | apply Kd.R_drew)); exact (Kd.R_mono (Kd.R_far (p := ⟨gb269, 1, none⟩) (Kd.R_far (p := ⟨gb269, 0, none⟩) (Kd.R_types HO264.out BK269.out (by decide)) (fun _ hk => hk.2) (.slice Ao46 t262.length co46)) (fun _ hk => hk.2) (.slice Ao50 t265.length co50)) (fun _ h_ => h_.1)))); (case side2 => exact (Kd.R_reads' HO264.out).2.1); (case side3 => refine (Kd.R_reads' (e := 90) (base := w.heap.size) (ok := fun k_ => ((True ∧ some k_ ≠ (.slice Ao10 t244.length co10 : Value).ownBlock) ∧ some k_ ≠ (.slice Ao16 t252.length co16 : Value).ownBlock)) (n := t265.length) (c := co50) ?_).2.2; exact (by (with_reducible repeat (first | apply Kd.R_alloc | apply Kd.R_drewN | apply Kd.R_drew)); exact (Kd.R_mono (Kd.R_far (p := ⟨gb269, 1, none⟩) (Kd.R_far (p := ⟨gb269, 0, none⟩) (Kd.R_types HO267.out BK269.out (by decide)) (fun _ hk => hk.2) (.slice Ao46 t262.length co46)) (fun _ hk => hk.2) (.slice Ao50 t265.length co50)) (fun _ h_ => h_.1)))); (case side4 => exact (Kd.R_reads' HO267.out).2.1); (case side5 => refine (Kd.R_reads' (e := 3) (base := w.heap.size) (ok := fun k_ => (some k_ ≠ (.slice Ao13 t249.length co13 : Value).ownBlock ∧ some k_ ≠ (.slice Ao46 t262.length co46 : Value).ownBlock)) (n := t241.length) (c := co8) ?_).2.2; exact (by (with_reducible repeat (first | apply Kd.R_alloc | apply Kd.R_drewN | apply Kd.R_drew)); exact (Kd.R_mono (Kd.R_far (p := ⟨gb269, 1, none⟩) (Kd.R_far (p := ⟨gb269, 0, none⟩) (Kd.R_types HO_249000.out BK269.out (by decide)) (fun _ hk => hk.2) (.slice Ao46 t262.length co46)) (fun _ hk => hk.2) (.slice Ao50 t265.length co50)) (fun _ h_ => h_.1)))); (case side6 => exact (Kd.R_reads' HO_249000.out).2.1); (case side7 => refine (Kd.R_reads' (e := 90) (base := w.heap.size) (ok := fun k_ => (some k_ ≠ (.slice Ao16 t252.length co16 : Value).ownBlock ∧ some k_ ≠ (.slice Ao50 t265.length co50 : Value).ownBlock)) (n := t244.length) (c := co10) ?_).2.2; exact (by (with_reducible repeat (first | apply Kd.R_alloc | apply Kd.R_drewN | apply Kd.R_drew)); exact (Kd.R_mono (Kd.R_far (p := ⟨gb269, 1, none⟩) (Kd.R_far (p := ⟨gb269, 0, none⟩) (Kd.R_types HO_249001.out BK269.out (by decide)) (fun _ hk => hk.2) (.slice Ao46 t262.length co46)) (fun _ hk => hk.2) (.slice Ao50 t265.length co50)) (fun _ h_ => h_.1)))); (case side8 => exact (Kd.R_reads' HO_249001.out).2.1); rintro e w58 ⟨rfl, hb⟩; refine ⟨_, rfl, ?_⟩; have n0_ := Aside0.mk (Kd.R_below (by (with_reducible repeat (first | apply Kd.R_alloc | apply Kd.R_drewN | apply Kd.R_drew)); exact (Kd.R_mono (Kd.R_far (p := ⟨gb269, 1, none⟩) (Kd.R_far (p := ⟨gb269, 0, none⟩) (Kd.R_types HO_249000.out BK269.out (by decide)) (fun _ hk => hk.2) (.slice Ao46 t262.length co46)) (fun _ hk => hk.2) (.slice Ao50 t265.length co50)) (fun _ h_ => h_.1))) hb); have n1_ := Aside0.mk (Kd.R_below (by (with_reducible repeat (first | apply Kd.R_alloc | apply Kd.R_drewN | apply Kd.R_drew)); exact (Kd.R_mono (Kd.R_far (p := ⟨gb269, 1, none⟩) (Kd.R_far (p := ⟨gb269, 0, none⟩) (Kd.R_types HO_249001.out BK269.out (by decide)) (fun _ hk => hk.2) (.slice Ao46 t262.length co46)) (fun _ hk => hk.2) (.slice Ao50 t265.length co50)) (fun _ h_ => h_.1))) hb); have n2_ := Aside0.mk (Kd.R_below (by (with_reducible repeat (first | apply Kd.R_alloc | apply Kd.R_drewN | apply Kd.R_drew)); exact (Kd.R_mono (Kd.R_far (p := ⟨gb269, 1, none⟩) (Kd.R_far (p := ⟨gb269, 0, none⟩) (Kd.R_types HO_257000.out BK269.out (by decide)) (fun _ hk => hk.2) (.slice Ao46 t262.length co46)) (fun _ hk => hk.2) (.slice Ao50 t265.length co50)) (fun _ h_ => h_.1))) hb); have n3_ := Aside0.mk (Kd.R_below (by (with_reducible repeat (first | apply Kd.R_alloc | apply Kd.R_drewN | apply Kd.R_drew)); exact (Kd.R_mono (Kd.R_far (p := ⟨gb269, 1, none⟩) (Kd.R_far (p := ⟨gb269, 0, none⟩) (Kd.R_types HO_257001.out BK269.out (by decide)) (fun _ hk => hk.2) (.slice Ao46 t262.length co46)) (fun _ hk => hk.2) (.slice Ao50 t265.length co50)) (fun _ h_ => h_.1))) hb); have n4_ := Aside0.mk (Kd.R_below (by (with_reducible repeat (first | apply Kd.R_alloc | apply Kd.R_drewN | apply Kd.R_drew)); exact (Kd.R_mono (Kd.R_far (p := ⟨gb269, 1, none⟩) (Kd.R_far (p := ⟨gb269, 0, none⟩) (Kd.R_types HO264.out BK269.out (by decide)) (fun _ hk => hk.2) (.slice Ao46 t262.length co46)) (fun _ hk => hk.2) (.slice Ao50 t265.length co50)) (fun _ h_ => h_.1))) hb); have n5_ := Aside0.mk (Kd.R_below (by (with_reducible repeat (first | apply Kd.R_alloc | apply Kd.R_drewN | apply Kd.R_drew)); exact (Kd.R_mono (Kd.R_far (p := ⟨gb269, 1, none⟩) (Kd.R_far (p := ⟨gb269, 0, none⟩) (Kd.R_types HO267.out BK269.out (by decide)) (fun _ hk => hk.2) (.slice Ao46 t262.length co46)) (fun _ hk => hk.2) (.slice Ao50 t265.length co50)) (fun _ h_ => h_.1))) hb); have n6_ := Aside0.mk (kbF BK248 hb); have n7_ := Aside0.mk (kbF BK256 hb); have n8_ := Aside0.mk (blk_below (g := gb269) (o := .cells #[.slice Ao46 t262.length co46, .slice Ao50 t265.length co50] 25 (0, 0)) (by (with_reducible repeat (first | refine blk_drewN ?_ _ | refine blk_drew ?_ | refine blk_alloc ?_ _)); refine blk_put (cs := #[.slice Ao46 t262.length co46, .slice none 0 0]) ?_ 1 _ rfl; (with_reducible repeat (first | refine blk_drewN ?_ _ | refine blk_drew ?_ | refine blk_alloc ?_ _)); refine blk_put (cs := #[.slice none 0 0, .slice none 0 0]) ?_ 0 _ rfl; (with_reducible repeat (first | refine blk_drewN ?_ _ | refine blk_drew ?_ | refine blk_alloc ?_ _)); exact BK269.out) hb); have n9_ := Aside0.mk (below_step (w := w) bW hb); clear HO_249000; clear HO_249001; clear HO_257000; clear HO_257001; clear HO264; clear HO267; clear BK248; clear BK256; clear BK269; clear HB; have HO_249000 := n0_; have HO_249001 := n1_; have HO_257000 := n2_; have HO_257001 := n3_; have HO264 := n4_; have HO267 := n5_; have BK248 := n6_; have BK256 := n7_; have BK269 := n8_; have HB := n9_; clear n0_ n1_ n2_ n3_ n4_ n5_ n6_ n7_ n8_ n9_; (try clear hb); (try clear hb2); (try clear hk); (try clear hi)))
                  go_meet
                  case rel => exact ⟨_, ((t268 != t247)), vE, H', ⟨by have := HJ4.out; first | omega | exact Nat.le_refl _⟩, ⟨by (with_reducible repeat (first | apply Kd.R_alloc | apply Kd.R_drewN | apply Kd.R_drew)); exact HO_249000.out⟩, ⟨by (with_reducible repeat (first | apply Kd.R_alloc | apply Kd.R_drewN | apply Kd.R_drew)); exact HO_249001.out⟩, ⟨by (with_reducible repeat (first | apply Kd.R_alloc | apply Kd.R_drewN | apply Kd.R_drew)); exact HO_257000.out⟩, ⟨by (with_reducible repeat (first | apply Kd.R_alloc | apply Kd.R_drewN | apply Kd.R_drew)); exact HO_257001.out⟩, ⟨by (with_reducible repeat (first | apply Kd.R_alloc | apply Kd.R_drewN | apply Kd.R_drew)); exact Kd.R_mono HO264.out (fun _ hk => ⟨hk.1.2, hk.2⟩)⟩, ⟨by (with_reducible repeat (first | apply Kd.R_alloc | apply Kd.R_drewN | apply Kd.R_drew)); exact Kd.R_mono HO267.out (fun _ hk => ⟨hk.1.2, hk.2⟩)⟩, ⟨by (with_reducible repeat (first | refine blk_drewN ?_ _ | refine blk_drew ?_ | refine blk_alloc ?_ _)); exact BK248.out⟩, ⟨by (with_reducible repeat (first | refine blk_drewN ?_ _ | refine blk_drew ?_ | refine blk_alloc ?_ _)); exact BK256.out⟩, ⟨by (with_reducible repeat (first | refine blk_drewN ?_ _ | refine blk_drew ?_ | refine blk_alloc ?_ _)); exact BK269.out⟩, ⟨bW⟩⟩
                · replace c52 := Bool.eq_false_iff.mpr c52
                  subst c52
                  have H1 : (laws_FnExactDecodeCommit.j1 kj4 t258 true t259 t260) = some r := by rw [if_neg (show ¬ (false = true) by decide)] at H; exact H
                  clear H
                  have H := H1
                  clear H1
                  have H' := Aside0.mk H
                  clear H
                  have hnb59 := NB269_248.out
                  have hnc59 := NB248_269.out
                  have hnb60 := NB269_256.out
                  have hnc60 := NB256_269.out
                  have hcz61_0 : w45.cell? ⟨gb269, 0, none⟩ = some (.slice none 0 0) := (blk_cell BK269.out 0).trans rfl
                  have hcz61_1 : w45.cell? ⟨gb269, 1, none⟩ = some (.slice none 0 0) := (blk_cell BK269.out 1).trans rfl
                  have hfz61_0 := blk_frozen BK269.out 0
                  have hfz61_1 := blk_frozen BK269.out 1
                  have hnb62 := NB248_256.out
                  have hnc62 := NB256_248.out
                  have hcz63_0 : w45.cell? ⟨gb248, 0, none⟩ = some (.slice Ao8 t241.length co8) := (blk_cell BK248.out 0).trans rfl
                  have hcz63_1 : w45.cell? ⟨gb248, 1, none⟩ = some (.slice Ao10 t244.length co10) := (blk_cell BK248.out 1).trans rfl
                  have hfz63_0 := blk_frozen BK248.out 0
                  have hfz63_1 := blk_frozen BK248.out 1
                  go_wp2_with (first | ((with_reducible refine gate_callee (f := 8) rfl ?_); refine goesL_ (some 51) rfl rfl Try.func8 (by kernel_rfl) rfl #[.agg #[.slice Ao46 t262.length co46, .slice Ao50 t265.length co50], .agg #[.slice Ao8 t241.length co8, .slice Ao10 t244.length co10]] rfl gA ?_; (with_reducible refine (laws_eqCommit.calls kj4 _ _ t262 _ _ t265 _ _ t241 _ _ t244 false _ ?side1 ?side2 ?side3 ?side4 ?side5 ?side6 ?side7 ?side8 A51.out).mono ?_); (case side1 => refine (Kd.R_reads' (e := 3) (base := w.heap.size) (ok := fun k_ => ((True ∧ some k_ ≠ (.slice Ao8 t241.length co8 : Value).ownBlock) ∧ some k_ ≠ (.slice Ao13 t249.length co13 : Value).ownBlock)) (n := t262.length) (c := co46) ?_).2.2; exact (by (with_reducible repeat (first | apply Kd.R_alloc | apply Kd.R_drewN | apply Kd.R_drew)); exact (Kd.R_mono (Kd.R_far (p := ⟨gb269, 1, none⟩) (Kd.R_far (p := ⟨gb269, 0, none⟩) (Kd.R_types HO264.out BK269.out (by decide)) (fun _ hk => hk.2) (.slice Ao46 t262.length co46)) (fun _ hk => hk.2) (.slice Ao50 t265.length co50)) (fun _ h_ => h_.1)))); (case side2 => exact (Kd.R_reads' HO264.out).2.1); (case side3 => refine (Kd.R_reads' (e := 90) (base := w.heap.size) (ok := fun k_ => ((True ∧ some k_ ≠ (.slice Ao10 t244.length co10 : Value).ownBlock) ∧ some k_ ≠ (.slice Ao16 t252.length co16 : Value).ownBlock)) (n := t265.length) (c := co50) ?_).2.2; exact (by (with_reducible repeat (first | apply Kd.R_alloc | apply Kd.R_drewN | apply Kd.R_drew)); exact (Kd.R_mono (Kd.R_far (p := ⟨gb269, 1, none⟩) (Kd.R_far (p := ⟨gb269, 0, none⟩) (Kd.R_types HO267.out BK269.out (by decide)) (fun _ hk => hk.2) (.slice Ao46 t262.length co46)) (fun _ hk => hk.2) (.slice Ao50 t265.length co50)) (fun _ h_ => h_.1)))); (case side4 => exact (Kd.R_reads' HO267.out).2.1); (case side5 => refine (Kd.R_reads' (e := 3) (base := w.heap.size) (ok := fun k_ => (some k_ ≠ (.slice Ao13 t249.length co13 : Value).ownBlock ∧ some k_ ≠ (.slice Ao46 t262.length co46 : Value).ownBlock)) (n := t241.length) (c := co8) ?_).2.2; exact (by (with_reducible repeat (first | apply Kd.R_alloc | apply Kd.R_drewN | apply Kd.R_drew)); exact (Kd.R_mono (Kd.R_far (p := ⟨gb269, 1, none⟩) (Kd.R_far (p := ⟨gb269, 0, none⟩) (Kd.R_types HO_249000.out BK269.out (by decide)) (fun _ hk => hk.2) (.slice Ao46 t262.length co46)) (fun _ hk => hk.2) (.slice Ao50 t265.length co50)) (fun _ h_ => h_.1)))); (case side6 => exact (Kd.R_reads' HO_249000.out).2.1); (case side7 => refine (Kd.R_reads' (e := 90) (base := w.heap.size) (ok := fun k_ => (some k_ ≠ (.slice Ao16 t252.length co16 : Value).ownBlock ∧ some k_ ≠ (.slice Ao50 t265.length co50 : Value).ownBlock)) (n := t244.length) (c := co10) ?_).2.2; exact (by (with_reducible repeat (first | apply Kd.R_alloc | apply Kd.R_drewN | apply Kd.R_drew)); exact (Kd.R_mono (Kd.R_far (p := ⟨gb269, 1, none⟩) (Kd.R_far (p := ⟨gb269, 0, none⟩) (Kd.R_types HO_249001.out BK269.out (by decide)) (fun _ hk => hk.2) (.slice Ao46 t262.length co46)) (fun _ hk => hk.2) (.slice Ao50 t265.length co50)) (fun _ h_ => h_.1)))); (case side8 => exact (Kd.R_reads' HO_249001.out).2.1); rintro e w64 ⟨rfl, hb⟩; refine ⟨_, rfl, ?_⟩; have n0_ := Aside0.mk (Kd.R_below (by (with_reducible repeat (first | apply Kd.R_alloc | apply Kd.R_drewN | apply Kd.R_drew)); exact (Kd.R_mono (Kd.R_far (p := ⟨gb269, 1, none⟩) (Kd.R_far (p := ⟨gb269, 0, none⟩) (Kd.R_types HO_249000.out BK269.out (by decide)) (fun _ hk => hk.2) (.slice Ao46 t262.length co46)) (fun _ hk => hk.2) (.slice Ao50 t265.length co50)) (fun _ h_ => h_.1))) hb); have n1_ := Aside0.mk (Kd.R_below (by (with_reducible repeat (first | apply Kd.R_alloc | apply Kd.R_drewN | apply Kd.R_drew)); exact (Kd.R_mono (Kd.R_far (p := ⟨gb269, 1, none⟩) (Kd.R_far (p := ⟨gb269, 0, none⟩) (Kd.R_types HO_249001.out BK269.out (by decide)) (fun _ hk => hk.2) (.slice Ao46 t262.length co46)) (fun _ hk => hk.2) (.slice Ao50 t265.length co50)) (fun _ h_ => h_.1))) hb); have n2_ := Aside0.mk (Kd.R_below (by (with_reducible repeat (first | apply Kd.R_alloc | apply Kd.R_drewN | apply Kd.R_drew)); exact (Kd.R_mono (Kd.R_far (p := ⟨gb269, 1, none⟩) (Kd.R_far (p := ⟨gb269, 0, none⟩) (Kd.R_types HO_257000.out BK269.out (by decide)) (fun _ hk => hk.2) (.slice Ao46 t262.length co46)) (fun _ hk => hk.2) (.slice Ao50 t265.length co50)) (fun _ h_ => h_.1))) hb); have n3_ := Aside0.mk (Kd.R_below (by (with_reducible repeat (first | apply Kd.R_alloc | apply Kd.R_drewN | apply Kd.R_drew)); exact (Kd.R_mono (Kd.R_far (p := ⟨gb269, 1, none⟩) (Kd.R_far (p := ⟨gb269, 0, none⟩) (Kd.R_types HO_257001.out BK269.out (by decide)) (fun _ hk => hk.2) (.slice Ao46 t262.length co46)) (fun _ hk => hk.2) (.slice Ao50 t265.length co50)) (fun _ h_ => h_.1))) hb); have n4_ := Aside0.mk (Kd.R_below (by (with_reducible repeat (first | apply Kd.R_alloc | apply Kd.R_drewN | apply Kd.R_drew)); exact (Kd.R_mono (Kd.R_far (p := ⟨gb269, 1, none⟩) (Kd.R_far (p := ⟨gb269, 0, none⟩) (Kd.R_types HO264.out BK269.out (by decide)) (fun _ hk => hk.2) (.slice Ao46 t262.length co46)) (fun _ hk => hk.2) (.slice Ao50 t265.length co50)) (fun _ h_ => h_.1))) hb); have n5_ := Aside0.mk (Kd.R_below (by (with_reducible repeat (first | apply Kd.R_alloc | apply Kd.R_drewN | apply Kd.R_drew)); exact (Kd.R_mono (Kd.R_far (p := ⟨gb269, 1, none⟩) (Kd.R_far (p := ⟨gb269, 0, none⟩) (Kd.R_types HO267.out BK269.out (by decide)) (fun _ hk => hk.2) (.slice Ao46 t262.length co46)) (fun _ hk => hk.2) (.slice Ao50 t265.length co50)) (fun _ h_ => h_.1))) hb); have n6_ := Aside0.mk (kbF BK248 hb); have n7_ := Aside0.mk (kbF BK256 hb); have n8_ := Aside0.mk (blk_below (g := gb269) (o := .cells #[.slice Ao46 t262.length co46, .slice Ao50 t265.length co50] 25 (0, 0)) (by (with_reducible repeat (first | refine blk_drewN ?_ _ | refine blk_drew ?_ | refine blk_alloc ?_ _)); refine blk_put (cs := #[.slice Ao46 t262.length co46, .slice none 0 0]) ?_ 1 _ rfl; (with_reducible repeat (first | refine blk_drewN ?_ _ | refine blk_drew ?_ | refine blk_alloc ?_ _)); refine blk_put (cs := #[.slice none 0 0, .slice none 0 0]) ?_ 0 _ rfl; (with_reducible repeat (first | refine blk_drewN ?_ _ | refine blk_drew ?_ | refine blk_alloc ?_ _)); exact BK269.out) hb); have n9_ := Aside0.mk (below_step (w := w) bW hb); clear HO_249000; clear HO_249001; clear HO_257000; clear HO_257001; clear HO264; clear HO267; clear BK248; clear BK256; clear BK269; clear HB; have HO_249000 := n0_; have HO_249001 := n1_; have HO_257000 := n2_; have HO_257001 := n3_; have HO264 := n4_; have HO267 := n5_; have BK248 := n6_; have BK256 := n7_; have BK269 := n8_; have HB := n9_; clear n0_ n1_ n2_ n3_ n4_ n5_ n6_ n7_ n8_ n9_; (try clear hb); (try clear hb2); (try clear hk); (try clear hi)))
                  go_meet
                  case rel => exact ⟨_, (true), vE, H', ⟨by have := HJ4.out; first | omega | exact Nat.le_refl _⟩, ⟨by (with_reducible repeat (first | apply Kd.R_alloc | apply Kd.R_drewN | apply Kd.R_drew)); exact HO_249000.out⟩, ⟨by (with_reducible repeat (first | apply Kd.R_alloc | apply Kd.R_drewN | apply Kd.R_drew)); exact HO_249001.out⟩, ⟨by (with_reducible repeat (first | apply Kd.R_alloc | apply Kd.R_drewN | apply Kd.R_drew)); exact HO_257000.out⟩, ⟨by (with_reducible repeat (first | apply Kd.R_alloc | apply Kd.R_drewN | apply Kd.R_drew)); exact HO_257001.out⟩, ⟨by (with_reducible repeat (first | apply Kd.R_alloc | apply Kd.R_drewN | apply Kd.R_drew)); exact Kd.R_mono HO264.out (fun _ hk => ⟨hk.1.2, hk.2⟩)⟩, ⟨by (with_reducible repeat (first | apply Kd.R_alloc | apply Kd.R_drewN | apply Kd.R_drew)); exact Kd.R_mono HO267.out (fun _ hk => ⟨hk.1.2, hk.2⟩)⟩, ⟨by (with_reducible repeat (first | refine blk_drewN ?_ _ | refine blk_drew ?_ | refine blk_alloc ?_ _)); exact BK248.out⟩, ⟨by (with_reducible repeat (first | refine blk_drewN ?_ _ | refine blk_drew ?_ | refine blk_alloc ?_ _)); exact BK256.out⟩, ⟨by (with_reducible repeat (first | refine blk_drewN ?_ _ | refine blk_drew ?_ | refine blk_alloc ?_ _)); exact BK269.out⟩, ⟨bW⟩⟩
              case rest =>
                clear HC38
                try clear c1
                try clear c2
                try clear c2b0
                try clear c2b1
                try clear p2
                try clear c3
                try clear c4
                try clear c5
                try clear c6
                try clear c7
                try clear c8
                try clear c9
                try clear c10
                try clear c14
                try clear c18
                try clear c19
                try clear c23
                try clear c27
                try clear c30
                try clear c30b0
                try clear c31
                try clear c36
                try clear c36b0
                try clear c36b1
                try clear c39
                try clear c47
                try clear c48
                try clear c52
                try clear c53
                try clear c54
                try clear c56
                try clear c59
                try clear c60
                try clear c62
                try clear hcz15_0
                try clear hcz15_1
                try clear hcz20_0
                try clear hcz20_1
                try clear hcz21_0
                try clear hcz21_1
                try clear hcz24_0
                try clear hcz24_1
                try clear hcz25_0
                try clear hcz25_1
                try clear hcz32_0
                try clear hcz32_1
                try clear hcz34_0
                try clear hcz34_1
                try clear hcz40_0
                try clear hcz40_1
                try clear hcz42_0
                try clear hcz42_1
                try clear hcz49_0
                try clear hcz49_1
                try clear hcz55_0
                try clear hcz55_1
                try clear hcz57_0
                try clear hcz57_1
                try clear hcz61_0
                try clear hcz61_1
                try clear hcz63_0
                try clear hcz63_1
                try clear hcz9_0
                try clear hcz9_1
                try clear hfz15_0
                try clear hfz15_1
                try clear hfz20_0
                try clear hfz20_1
                try clear hfz21_0
                try clear hfz21_1
                try clear hfz24_0
                try clear hfz24_1
                try clear hfz25_0
                try clear hfz25_1
                try clear hfz32_0
                try clear hfz32_1
                try clear hfz34_0
                try clear hfz34_1
                try clear hfz40_0
                try clear hfz40_1
                try clear hfz42_0
                try clear hfz42_1
                try clear hfz49_0
                try clear hfz49_1
                try clear hfz55_0
                try clear hfz55_1
                try clear hfz57_0
                try clear hfz57_1
                try clear hfz61_0
                try clear hfz61_1
                try clear hfz63_0
                try clear hfz63_1
                try clear hfz9_0
                try clear hfz9_1
                try clear p2
                obtain ⟨kq, x57_37, rfl, HA, HJ37, HO_249000, HO_249001, HO_257000, HO_257001, HO_270000, HO_270001, BK248, BK256, BK269, HB⟩ := hcut
                have hl257000_37 := (Kd.R_reads' HO_257000.out).1
                rw [hl257000_37] at HO_257000
                (try simp only [hl257000_37])
                (try simp only [hl257000_37] at BK248)
                (try simp only [hl257000_37] at BK256)
                (try simp only [hl257000_37] at BK269)
                (try simp only [hl257000_37] at HO_249000)
                (try simp only [hl257000_37] at HO_249001)
                (try simp only [hl257000_37] at HO_257001)
                (try simp only [hl257000_37] at HO_270000)
                (try simp only [hl257000_37] at HO_270001)
                have hl257001_37 := (Kd.R_reads' HO_257001.out).1
                rw [hl257001_37] at HO_257001
                (try simp only [hl257001_37])
                (try simp only [hl257001_37] at BK248)
                (try simp only [hl257001_37] at BK256)
                (try simp only [hl257001_37] at BK269)
                (try simp only [hl257001_37] at HO_249000)
                (try simp only [hl257001_37] at HO_249001)
                (try simp only [hl257001_37] at HO_257000)
                (try simp only [hl257001_37] at HO_270000)
                (try simp only [hl257001_37] at HO_270001)
                cases kq with
                | zero => exact absurd HA.out (by simp [laws_FnExactDecodeCommit.j1])
                | succ kj37 =>
                  have H := HA.out
                  clear HA
                  simp only [laws_FnExactDecodeCommit.j1] at H
                  by_cases c65 : x57_37 = true
                  · subst c65
                    have H1 : (some false) = some r := by rw [if_pos rfl] at H; exact H
                    clear H
                    have H := H1
                    clear H1
                    obtain rfl := Option.some.inj H
                    go_wp2
                    go_ret
                    exact ⟨rE, bW⟩
                  · replace c65 := Bool.eq_false_iff.mpr c65
                    subst c65
                    have H1 : ((laws_heldCommit.f kj37 t259 t260 1).bind fun t271 => (if t271 < 0 then (some false) else (if t271 = t258 then (some true) else (some false)))) = some r := by rw [if_neg (show ¬ (false = true) by decide)] at H; exact H
                    clear H
                    have H := H1
                    clear H1
                    replace H := Option.bind_eq_some_iff.mp H
                    obtain ⟨t271, A660, H⟩ := H
                    replace H : (if t271 < 0 then (some false) else (if t271 = t258 then (some true) else (some false))) = some r := H
                    have A66 := Aside0.mk A660
                    clear A660
                    by_cases c67 : t271 < 0
                    · rw [if_pos c67] at H
                      have c67b0 : decide (t271 < 0) = true := decide_eq_true c67
                      clear c67
                      obtain rfl := Option.some.inj H
                      have hnb68 := NB256_248.out
                      have hnc68 := NB248_256.out
                      have hnb69 := NB256_269.out
                      have hnc69 := NB269_256.out
                      have hcz70_0 : wc.cell? ⟨gb256, 0, none⟩ = some (.slice Ao13 t259.length co13) := (blk_cell BK256.out 0).trans rfl
                      have hcz70_1 : wc.cell? ⟨gb256, 1, none⟩ = some (.slice Ao16 t260.length co16) := (blk_cell BK256.out 1).trans rfl
                      have hfz70_0 := fz1 BK256
                      have hfz70_1 := blk_frozen BK256.out 1
                      go_wp2_with (first | ((with_reducible refine gate_callee (f := 10) rfl ?_); refine goesL_ (some 60) rfl rfl Try.func10 (by kernel_rfl) rfl #[.agg #[.slice Ao13 t259.length co13, .slice Ao16 t260.length co16], .int .i64 1] rfl gA ?_; (with_reducible refine (laws_heldCommit.calls kj37 _ _ t259 _ _ t260 1 t271 _ ?side1 ?side2 ?side3 ?side4 A66.out).mono ?_); (case side1 => repeat (first | exact (Kd.R_reads' HO_257000.out).2.2 | (with_reducible refine Kd.C_alloc ?_ _) | (with_reducible refine Kd.C_drewN ?_ _) | (with_reducible refine Kd.C_drew ?_))); (case side2 => exact (Kd.R_reads' HO_257000.out).2.1); (case side3 => repeat (first | exact (Kd.R_reads' HO_257001.out).2.2 | (with_reducible refine Kd.C_alloc ?_ _) | (with_reducible refine Kd.C_drewN ?_ _) | (with_reducible refine Kd.C_drew ?_))); (case side4 => exact (Kd.R_reads' HO_257001.out).2.1); rintro e w71 ⟨rfl, hb⟩; refine ⟨_, rfl, ?_⟩; have n0_ := Aside0.mk (Kd.R_below (pR HO_249000) hb); have n1_ := Aside0.mk (Kd.R_below (pR HO_249001) hb); have n2_ := Aside0.mk (Kd.R_below (pR HO_257000) hb); have n3_ := Aside0.mk (Kd.R_below (pR HO_257001) hb); have n4_ := Aside0.mk (Kd.R_below (pR HO_270000) hb); have n5_ := Aside0.mk (Kd.R_below (pR HO_270001) hb); have n6_ := Aside0.mk (kb BK248 hb); have n7_ := Aside0.mk (kb BK256 hb); have n8_ := Aside0.mk (kb BK269 hb); have n9_ := Aside0.mk (below_step (w := w) bW hb); clear HO_249000; clear HO_249001; clear HO_257000; clear HO_257001; clear HO_270000; clear HO_270001; clear BK248; clear BK256; clear BK269; clear HB; have HO_249000 := n0_; have HO_249001 := n1_; have HO_257000 := n2_; have HO_257001 := n3_; have HO_270000 := n4_; have HO_270001 := n5_; have BK248 := n6_; have BK256 := n7_; have BK269 := n8_; have HB := n9_; clear n0_ n1_ n2_ n3_ n4_ n5_ n6_ n7_ n8_ n9_; (try clear hb); (try clear hb2); (try clear hk); (try clear hi)))
                      go_ret
                      exact ⟨rE, bW⟩
                    · rw [if_neg c67] at H
                      have c67b0 : decide (t271 < 0) = false := decide_eq_false c67
                      clear c67
                      by_cases c72 : t271 = t258
                      · rw [if_pos c72] at H
                        have c72b0 : (t271 == t258) = true := beq_iff_eq.mpr c72
                        have c72b1 : (t271 != t258) = false := bne_eq_false_iff_eq.mpr c72
                        clear c72
                        obtain rfl := Option.some.inj H
                        have hnb73 := NB256_248.out
                        have hnc73 := NB248_256.out
                        have hnb74 := NB256_269.out
                        have hnc74 := NB269_256.out
                        have hcz75_0 : wc.cell? ⟨gb256, 0, none⟩ = some (.slice Ao13 t259.length co13) := (blk_cell BK256.out 0).trans rfl
                        have hcz75_1 : wc.cell? ⟨gb256, 1, none⟩ = some (.slice Ao16 t260.length co16) := (blk_cell BK256.out 1).trans rfl
                        have hfz75_0 := fz1 BK256
                        have hfz75_1 := blk_frozen BK256.out 1
                        go_wp2_with (first | ((with_reducible refine gate_callee (f := 10) rfl ?_); refine goesL_ (some 60) rfl rfl Try.func10 (by kernel_rfl) rfl #[.agg #[.slice Ao13 t259.length co13, .slice Ao16 t260.length co16], .int .i64 1] rfl gA ?_; (with_reducible refine (laws_heldCommit.calls kj37 _ _ t259 _ _ t260 1 t271 _ ?side1 ?side2 ?side3 ?side4 A66.out).mono ?_); (case side1 => repeat (first | exact (Kd.R_reads' HO_257000.out).2.2 | (with_reducible refine Kd.C_alloc ?_ _) | (with_reducible refine Kd.C_drewN ?_ _) | (with_reducible refine Kd.C_drew ?_))); (case side2 => exact (Kd.R_reads' HO_257000.out).2.1); (case side3 => repeat (first | exact (Kd.R_reads' HO_257001.out).2.2 | (with_reducible refine Kd.C_alloc ?_ _) | (with_reducible refine Kd.C_drewN ?_ _) | (with_reducible refine Kd.C_drew ?_))); (case side4 => exact (Kd.R_reads' HO_257001.out).2.1); rintro e w76 ⟨rfl, hb⟩; refine ⟨_, rfl, ?_⟩; have n0_ := Aside0.mk (Kd.R_below (pR HO_249000) hb); have n1_ := Aside0.mk (Kd.R_below (pR HO_249001) hb); have n2_ := Aside0.mk (Kd.R_below (pR HO_257000) hb); have n3_ := Aside0.mk (Kd.R_below (pR HO_257001) hb); have n4_ := Aside0.mk (Kd.R_below (pR HO_270000) hb); have n5_ := Aside0.mk (Kd.R_below (pR HO_270001) hb); have n6_ := Aside0.mk (kb BK248 hb); have n7_ := Aside0.mk (kb BK256 hb); have n8_ := Aside0.mk (kb BK269 hb); have n9_ := Aside0.mk (below_step (w := w) bW hb); clear HO_249000; clear HO_249001; clear HO_257000; clear HO_257001; clear HO_270000; clear HO_270001; clear BK248; clear BK256; clear BK269; clear HB; have HO_249000 := n0_; have HO_249001 := n1_; have HO_257000 := n2_; have HO_257001 := n3_; have HO_270000 := n4_; have HO_270001 := n5_; have BK248 := n6_; have BK256 := n7_; have BK269 := n8_; have HB := n9_; clear n0_ n1_ n2_ n3_ n4_ n5_ n6_ n7_ n8_ n9_; (try clear hb); (try clear hb2); (try clear hk); (try clear hi)))
                        go_ret
                        exact ⟨rE, bW⟩
                      · rw [if_neg c72] at H
                        have c72b0 : (t271 == t258) = false := beq_eq_false_iff_ne.mpr c72
                        have c72b1 : (t271 != t258) = true := bne_iff_ne.mpr c72
                        obtain rfl := Option.some.inj H
                        have hnb77 := NB256_248.out
                        have hnc77 := NB248_256.out
                        have hnb78 := NB256_269.out
                        have hnc78 := NB269_256.out
                        have hcz79_0 : wc.cell? ⟨gb256, 0, none⟩ = some (.slice Ao13 t259.length co13) := (blk_cell BK256.out 0).trans rfl
                        have hcz79_1 : wc.cell? ⟨gb256, 1, none⟩ = some (.slice Ao16 t260.length co16) := (blk_cell BK256.out 1).trans rfl
                        have hfz79_0 := fz1 BK256
                        have hfz79_1 := blk_frozen BK256.out 1
                        go_wp2_with (first | ((with_reducible refine gate_callee (f := 10) rfl ?_); refine goesL_ (some 60) rfl rfl Try.func10 (by kernel_rfl) rfl #[.agg #[.slice Ao13 t259.length co13, .slice Ao16 t260.length co16], .int .i64 1] rfl gA ?_; (with_reducible refine (laws_heldCommit.calls kj37 _ _ t259 _ _ t260 1 t271 _ ?side1 ?side2 ?side3 ?side4 A66.out).mono ?_); (case side1 => repeat (first | exact (Kd.R_reads' HO_257000.out).2.2 | (with_reducible refine Kd.C_alloc ?_ _) | (with_reducible refine Kd.C_drewN ?_ _) | (with_reducible refine Kd.C_drew ?_))); (case side2 => exact (Kd.R_reads' HO_257000.out).2.1); (case side3 => repeat (first | exact (Kd.R_reads' HO_257001.out).2.2 | (with_reducible refine Kd.C_alloc ?_ _) | (with_reducible refine Kd.C_drewN ?_ _) | (with_reducible refine Kd.C_drew ?_))); (case side4 => exact (Kd.R_reads' HO_257001.out).2.1); rintro e w80 ⟨rfl, hb⟩; refine ⟨_, rfl, ?_⟩; have n0_ := Aside0.mk (Kd.R_below (pR HO_249000) hb); have n1_ := Aside0.mk (Kd.R_below (pR HO_249001) hb); have n2_ := Aside0.mk (Kd.R_below (pR HO_257000) hb); have n3_ := Aside0.mk (Kd.R_below (pR HO_257001) hb); have n4_ := Aside0.mk (Kd.R_below (pR HO_270000) hb); have n5_ := Aside0.mk (Kd.R_below (pR HO_270001) hb); have n6_ := Aside0.mk (kb BK248 hb); have n7_ := Aside0.mk (kb BK256 hb); have n8_ := Aside0.mk (kb BK269 hb); have n9_ := Aside0.mk (below_step (w := w) bW hb); clear HO_249000; clear HO_249001; clear HO_257000; clear HO_257001; clear HO_270000; clear HO_270001; clear BK248; clear BK256; clear BK269; clear HB; have HO_249000 := n0_; have HO_249001 := n1_; have HO_257000 := n2_; have HO_257001 := n3_; have HO_270000 := n4_; have HO_270001 := n5_; have BK248 := n6_; have BK256 := n7_; have BK269 := n8_; have HB := n9_; clear n0_ n1_ n2_ n3_ n4_ n5_ n6_ n7_ n8_ n9_; (try clear hb); (try clear hb2); (try clear hk); (try clear hi)))
                        go_ret
                        exact ⟨rE, bW⟩
            · rw [if_neg c36] at H
              have c36b0 : (t261 == t258) = false := beq_eq_false_iff_ne.mpr c36
              have c36b1 : (t261 != t258) = true := bne_iff_ne.mpr c36
              obtain rfl := Option.some.inj H
              have hnb81 := NB256_248.out
              have hnc81 := NB248_256.out
              have hcz82_0 : wc.cell? ⟨gb256, 0, none⟩ = some (.slice Ao13 t249.length co13) := (blk_cell BK256.out 0).trans rfl
              have hcz82_1 : wc.cell? ⟨gb256, 1, none⟩ = some (.slice Ao16 t252.length co16) := (blk_cell BK256.out 1).trans rfl
              have hfz82_0 := blk_frozen BK256.out 0
              have hfz82_1 := blk_frozen BK256.out 1
              go_wp2_with (first | ((with_reducible refine gate_callee (f := 9) rfl ?_); refine goesL_ (some 35) rfl rfl Try.func9 (by kernel_rfl) rfl #[.agg #[.slice Ao13 t249.length co13, .slice Ao16 t252.length co16], .int .i64 1] rfl gA ?_; (with_reducible refine (laws_markCommit.calls kj4 (fun k_ => some k_ = (.slice Ao13 t249.length co13 : Value).ownBlock) (.slice Ao13 t249.length co13) t249 (fun k_ => some k_ = (.slice Ao16 t252.length co16 : Value).ownBlock) (.slice Ao16 t252.length co16) t252 1 t258 t259 t260 w _ ?side1 ?side2 ?side3 A28.out).mono ?_); (case side1 => repeat (first | (with_reducible first | exact HB.out | apply below_alloc | apply pw_below_drewN | apply below_drew1 | refine below_set ?_ GE248.out | refine below_set ?_ GE256.out) | exact HB.out)); (case side2 => exact Kd.R_tight rfl HO_257000.out); (case side3 => exact Kd.R_tight rfl HO_257001.out); rintro e w83 ⟨rfl, hy0, hy1, hb, hkp⟩; refine ⟨_, rfl, ?_⟩; have n0_ := Aside0.mk (Kd.R_mono (ok' := fun k_ => some k_ ≠ (.slice Ao13 t249.length co13 : Value).ownBlock) (Kd.R_keptB ((Kd.R_apart' HO_249000.out (Kd.R_typed HO_257001.out) (by decide))) hkp (fun k_ hk_ hs_ => Or.elim hs_ (fun e_ => (hk_.1) e_) (fun e_ => (hk_.2) e_))) (fun k_ hk_ => hk_.1.1)); have n1_ := Aside0.mk (Kd.R_mono (ok' := fun k_ => some k_ ≠ (.slice Ao16 t252.length co16 : Value).ownBlock) (Kd.R_keptB ((Kd.R_apart' HO_249001.out (Kd.R_typed HO_257000.out) (by decide))) hkp (fun k_ hk_ hs_ => Or.elim hs_ (fun e_ => (hk_.2) e_) (fun e_ => (hk_.1) e_))) (fun k_ hk_ => hk_.1.1)); have n2_ := Aside0.mk (Kd.R_reok rfl hy0 (fun k_ e_ => HO_257000.out.1 k_ e_)); have n3_ := Aside0.mk (Kd.R_reok rfl hy1 (fun k_ e_ => HO_257001.out.1 k_ e_)); have n4_ := Aside0.mk (blk_kept (kB BK248) hkp (fun hs_ => Or.elim hs_ (fun e_ => (fun e_ => (Kd.R_ne HO_257000.out BK248.out (by decide)) e_) e_) (fun e_ => (fun e_ => (Kd.R_ne HO_257001.out BK248.out (by decide)) e_) e_))); have n5_ := Aside0.mk (blk_kept (kB BK256) hkp (fun hs_ => Or.elim hs_ (fun e_ => (fun e_ => (Kd.R_ne HO_257000.out BK256.out (by decide)) e_) e_) (fun e_ => (fun e_ => (Kd.R_ne HO_257001.out BK256.out (by decide)) e_) e_))); have n6_ := Aside0.mk (hb); clear HO_249000; clear HO_249001; clear HO_257000; clear HO_257001; clear BK248; clear BK256; clear HB; have HO_249000 := n0_; have HO_249001 := n1_; have HO_257000 := n2_; have HO_257001 := n3_; have BK248 := n4_; have BK256 := n5_; have HB := n6_; clear n0_ n1_ n2_ n3_ n4_ n5_ n6_; (try clear hb); (try clear hkp); (try clear hy0); (try clear hy1); obtain ⟨hcz84_0, hcz84_1⟩ := cz2 BK256; obtain ⟨hfz84_0, hfz84_1⟩ := fz2 BK256) | ((with_reducible refine gate_callee (f := 10) rfl ?_); refine goesL_ (some 38) rfl rfl Try.func10 (by kernel_rfl) rfl #[.agg #[.slice Ao13 t259.length co13, .slice Ao16 t260.length co16], .int .i64 1] rfl (by (try simp only [List.map_toArray, List.map_cons, List.map_nil]); first | done | (rw [show t259.length = t249.length from (Kd.R_reads' HO_257000.out).1.symm, show t260.length = t252.length from (Kd.R_reads' HO_257001.out).1.symm] <;> rfl) | rfl | (simp only [List.length_drop, List.length_take]; rfl)) ?_; (with_reducible refine (laws_heldCommit.calls kj4 _ _ t259 _ _ t260 1 t261 _ ?side1 ?side2 ?side3 ?side4 A29.out).mono ?_); (case side1 => repeat (first | exact (Kd.R_reads' HO_257000.out).2.2 | (with_reducible refine Kd.C_alloc ?_ _) | (with_reducible refine Kd.C_drewN ?_ _) | (with_reducible refine Kd.C_drew ?_))); (case side2 => rw [show t259.length = t249.length from (Kd.R_reads' HO_257000.out).1.symm]; exact (Kd.R_reads' HO_257000.out).2.1); (case side3 => repeat (first | exact (Kd.R_reads' HO_257001.out).2.2 | (with_reducible refine Kd.C_alloc ?_ _) | (with_reducible refine Kd.C_drewN ?_ _) | (with_reducible refine Kd.C_drew ?_))); (case side4 => rw [show t260.length = t252.length from (Kd.R_reads' HO_257001.out).1.symm]; exact (Kd.R_reads' HO_257001.out).2.1); rintro e w85 ⟨rfl, hb⟩; refine ⟨_, rfl, ?_⟩; have n0_ := Aside0.mk (Kd.R_below (pR HO_249000) hb); have n1_ := Aside0.mk (Kd.R_below (pR HO_249001) hb); have n2_ := Aside0.mk (Kd.R_below (pR HO_257000) hb); have n3_ := Aside0.mk (Kd.R_below (pR HO_257001) hb); have n4_ := Aside0.mk (kb BK248 hb); have n5_ := Aside0.mk (kb BK256 hb); have n6_ := Aside0.mk (below_step (w := w) bW hb); clear HO_249000; clear HO_249001; clear HO_257000; clear HO_257001; clear BK248; clear BK256; clear HB; have HO_249000 := n0_; have HO_249001 := n1_; have HO_257000 := n2_; have HO_257001 := n3_; have BK248 := n4_; have BK256 := n5_; have HB := n6_; clear n0_ n1_ n2_ n3_ n4_ n5_ n6_; (try clear hb); (try clear hb2); (try clear hk); (try clear hi)))
              go_ret
              exact ⟨rE, bW⟩
def laws_FnExactDecodeCommit.Pure : Prop := ∀ (a0 : ByteArray), a0.size ≤ 140737488351232 → ∃ k, laws_FnExactDecodeCommit.f k a0 = some true
theorem laws_FnExactDecodeCommit.walk (P : laws_FnExactDecodeCommit.Pure) (a0 : ByteArray) (w : World) (w0 : a0.size ≤ 140737488351232) :
    Calls Try.prog 3 #[.string a0] w fun e w' => e = .returned (.bool true) ∧ Below w.heap.size w w' := by
  obtain ⟨k, h⟩ := P a0 w0
  refine (laws_FnExactDecodeCommit.calls k a0 true w h).mono ?_
  rintro e w' ⟨rfl, hd⟩
  exact ⟨rfl, hd⟩
end Go.Proofs.Ytjkjnfooaglnkaa.Q
end

section
namespace Go.Proofs.Ytjkjnfooaglnkaa.Q
open Go.RowKit Go.Proofs.YtjkjnfooaglnkaaW.PrintWords Go.Proofs.YtjkjnfooaglnkaaW.PrintLast
theorem wraps_i64_ (n : Int) (h₀ : 0 ≤ n) (h₁ : n < 2 ^ 63) : IntKind.i64.wrap n = n := by rw [IntKind.wrap_i64]; omega
theorem and127 (x : Int) (h₀ : 0 ≤ x) (h₁ : x < 9223372036854775808) : Go.bits .and .i64 x 127 = x % 128 := bits_mask .i64 63 (by decide) wraps_i64_ 7 (by decide) x h₀ h₁
end Go.Proofs.Ytjkjnfooaglnkaa.Q
end

section
namespace Go.Proofs.Ytjkjnfooaglnkaa.Q
open Go.RowKit Go.Proofs.YtjkjnfooaglnkaaW.PrintWords Go.Proofs.YtjkjnfooaglnkaaW.PrintLast Go.Proofs.YtjkjnfooaglnkaaW.PrintMore
attribute [local go_sem] max2_int min2_int max_two min_two max_three min_three max_four min_four   -- for this text's walks alone
set_option linter.unusedVariables false
set_option linter.unusedSimpArgs false
attribute [local go_sem] bin_leq bin_gtr bin_geq
theorem ev_refl_loop {α : Type} {L : Nat → List α → List α → Int → Option Bool} {g : Nat → α → α → Option Bool} {z : α}
    (step : ∀ k xs ys i, L (k + 1) xs ys i = if i < (xs.length : Int) then (if 0 ≤ i then (if i < (ys.length : Int) then ((g k (xs.getD i.toNat z) (ys.getD i.toNat z)).bind fun t => (if t = true then L k xs ys (wrap64 (i + 1)) else some false)) else none) else none) else some true)
    (xs : List α) (hlen : xs.length ≤ 4611686018427387904) (hg : ∀ x, x ∈ xs → Ev (fun k => g k x x) true) : Ev (fun k => L k xs xs 0) true := by
  have key : ∀ d (i : Nat), i + d = xs.length → Ev (fun k => L k xs xs (i : Int)) true := by
    intro d
    induction d with
    | zero =>
      intro i hi
      exact Ev.step (f := fun _ => some true) (fun k => by rw [step, if_neg (by omega)]) (Ev.now true)
    | succ d ih =>
      intro i hi
      have hl : i < xs.length := by omega
      have hw : wrap64 ((i : Int) + 1) = ((i + 1 : Nat) : Int) := by unfold wrap64; omega
      have hx : xs.getD ((i : Int).toNat) z = xs[i] := by simp [List.getD_eq_getElem?_getD, List.getElem?_eq_getElem hl]
      refine Ev.step (f := fun k => (g k xs[i] xs[i]).bind fun t => if t = true then L k xs xs ((i + 1 : Nat) : Int) else some false) (fun k => ?_) ?_
      · rw [step, if_pos (by omega), if_pos (by omega), if_pos (by omega), hx, hw]
      · refine Ev.bind (hg _ (List.getElem_mem hl)) ?_
        simp only [if_true]
        exact ih (i + 1) (by omega)
  exact key xs.length 0 (by omega)
end Go.Proofs.Ytjkjnfooaglnkaa.Q
end

section
namespace Go.Proofs.Ytjkjnfooaglnkaa.Q
open Go.RowKit Go.Proofs.YtjkjnfooaglnkaaW.PrintWords Go.Proofs.YtjkjnfooaglnkaaW.PrintLast
set_option linter.unusedVariables false
theorem Ev.shift {α : Type} {g h : Nat → Option α} {r : α} {c d : Nat} (e : ∀ k, g (k + c) = h (k + d)) (k : Ev h r) : Ev g r := by
  obtain ⟨K, hK⟩ := k
  refine ⟨K + c, fun n hn => ?_⟩
  obtain ⟨m, rfl⟩ : ∃ m, n = m + c := ⟨n - c, by omega⟩
  rw [e]
  exact hK _ (by omega)
theorem Ev.at_ {α : Type} {g : Nat → Option α} {r : α} {c : Nat} (e : ∀ k, g (k + c) = some r) : Ev g r := by
  refine ⟨c, fun n hn => ?_⟩
  obtain ⟨m, rfl⟩ : ∃ m, n = m + c := ⟨n - c, by omega⟩
  exact e m
theorem Ev.succ {α : Type} {g : Nat → Option α} {r : α} (h : Ev (fun k => g (k + 1)) r) : Ev g r := Ev.step (fun _ => rfl) h
theorem ev_same_loop {α : Type} {L : Nat → Int → Option Bool} {xs ys : List α} (hl : xs.length = ys.length)
    (step : ∀ (i : Nat) (h1 : i < xs.length) (h2 : i < ys.length), xs[i] = ys[i] → ∀ k, L (k + 1) (i : Int) = L k ((i + 1 : Nat) : Int))
    (stop : ∀ (i : Nat) (h1 : i < xs.length) (h2 : i < ys.length), xs[i] ≠ ys[i] → ∀ k, L (k + 1) (i : Int) = some false)
    (done : ∀ k, L (k + 1) (xs.length : Int) = some true) : ∃ b, Ev (fun k => L k 0) b ∧ (b = true ↔ xs = ys) := by
  have key : ∀ d (i : Nat), i + d = xs.length → xs.take i = ys.take i → ∃ b, Ev (fun k => L k (i : Int)) b ∧ (b = true ↔ xs = ys) := by
    intro d
    induction d with
    | zero =>
      intro i hi hp
      obtain rfl : i = xs.length := by omega
      refine ⟨true, Ev.at_ (c := 1) done, fun _ => ?_, fun _ => rfl⟩
      rw [List.take_length, hl, List.take_length] at hp
      exact hp
    | succ d ih =>
      intro i hi hp
      have h1 : i < xs.length := by omega
      have h2 : i < ys.length := by omega
      rcases Classical.em (xs[i] = ys[i]) with h | h
      · obtain ⟨b, hb, hb2⟩ := ih (i + 1) (by omega) (by rw [List.take_succ_eq_append_getElem h1, List.take_succ_eq_append_getElem h2, hp, h])
        exact ⟨b, Ev.step (step i h1 h2 h) hb, hb2⟩
      · refine ⟨false, Ev.at_ (c := 1) (stop i h1 h2 h), by simp, fun e => absurd (by subst e; rfl) h⟩
  exact key xs.length 0 (by omega) (by simp)
theorem wrap_i {i : Nat} (h : i < 4611686018427387904) : wrap64 ((i : Int) + 1) = ((i + 1 : Nat) : Int) := by unfold wrap64; omega
end Go.Proofs.Ytjkjnfooaglnkaa.Q
end

section
namespace Go.Proofs.Ytjkjnfooaglnkaa.Q
open Go.RowKit Go.Proofs.YtjkjnfooaglnkaaW.PrintWords Go.Proofs.YtjkjnfooaglnkaaW.PrintLast
set_option linter.unusedVariables false
set_option linter.unusedSimpArgs false
theorem wrap_id {x : Int} (h0 : -9223372036854775808 ≤ x) (h1 : x ≤ 9223372036854775807) : wrap64 x = x := by unfold wrap64; omega
theorem wrap_7 {j : Nat} (h : j < 4) : 0 ≤ wrap64 (7 * (j : Int)) := by
  rw [wrap_id (by omega) (by omega)]
  omega
theorem pos_ {b : Int} (h : 0 ≤ b) (hz : ¬ b = 0) : b > 0 := by omega
theorem ne_ {p j : Int} (h : j > 0) : ((p + j) == p) = false := by rw [beq_eq_false_iff_ne]; omega
theorem eq_ {p j : Int} (h : ¬ j > 0) (h0 : 0 ≤ j) : ((p + j) == p) = true := by rw [beq_iff_eq]; omega
theorem step_ {j d : Nat} (h : j + (d + 1) = 4) : j + 1 + d = 4 := by omega
theorem lt_ {n x M : Int} (h : n < M) (g : x ≤ 127 * M) : n + x < M * 128 := by omega
theorem cast_ (p : Int) (j : Nat) : p + ((j + 1 : Nat) : Int) = p + (j : Int) + 1 := by omega
theorem orshl (j : Nat) (hj : j < 4) (n c : Int) (h0 : 0 ≤ n) (h1 : n < 128 ^ j) (h2 : 0 ≤ c) (h3 : c < 128) :
    Go.bits .or .i64 n (shl .i64 c (wrap64 (7 * (j : Int)))) = n + c * 128 ^ j := by
  have key : ∀ (i : Nat), i ≤ 21 → n < 2 ^ i → Go.bits .or .i64 n (shl .i64 c (i : Int)) = n + c * 2 ^ i := by
    intro i hi hn
    have hp : (2 : Int) ^ i ≤ 2 ^ 21 := by exact_mod_cast Nat.pow_le_pow_right (by decide) hi
    have hp0 : (0 : Int) < 2 ^ i := Int.pow_pos (by decide)
    have hb : c * 2 ^ i ≤ 127 * 2 ^ 21 := by
      have a1 : c * 2 ^ i ≤ 127 * 2 ^ i := Int.mul_le_mul_of_nonneg_right (by omega) (by omega)
      omega
    have hb0 : 0 ≤ c * 2 ^ i := Int.mul_nonneg h2 (by omega)
    have e : shl .i64 c (i : Int) = c * 2 ^ i := by
      unfold shl
      have e1 : min (i : Int).toNat IntKind.i64.bits = i := by
        have : IntKind.i64.bits = 64 := rfl
        rw [this]
        omega
      rw [e1]
      exact wraps_i64_ _ hb0 (by omega)
    rw [e]
    exact bits_join_low .i64 63 (by decide) wraps_i64_ i n (c * 2 ^ i) h0 hn (by omega) hb0 (Int.mul_emod_left _ _) (by omega)
  obtain rfl | rfl | rfl | rfl : j = 0 ∨ j = 1 ∨ j = 2 ∨ j = 3 := by omega
  · have e := key 0 (by decide) (by simpa using h1)
    rw [show wrap64 (7 * ((0 : Nat) : Int)) = ((0 : Nat) : Int) from (wrap_id (by omega) (by omega)).trans (by omega), show (128 : Int) ^ 0 = 2 ^ 0 by decide]
    exact e
  · have e := key 7 (by decide) (by simpa using h1)
    rw [show wrap64 (7 * ((1 : Nat) : Int)) = ((7 : Nat) : Int) from (wrap_id (by omega) (by omega)).trans (by omega), show (128 : Int) ^ 1 = 2 ^ 7 by decide]
    exact e
  · have e := key 14 (by decide) (by simpa using h1)
    rw [show wrap64 (7 * ((2 : Nat) : Int)) = ((14 : Nat) : Int) from (wrap_id (by omega) (by omega)).trans (by omega), show (128 : Int) ^ 2 = 2 ^ 14 by decide]
    exact e
  · have e := key 21 (by decide) (by simpa using h1)
    rw [show wrap64 (7 * ((3 : Nat) : Int)) = ((21 : Nat) : Int) from (wrap_id (by omega) (by omega)).trans (by omega), show (128 : Int) ^ 3 = 2 ^ 21 by decide]
    exact e
theorem le_a {p j : Int} (h : 0 ≤ j) : p ≤ p + j + 1 := by omega
set_option maxHeartbeats 4000000 in
theorem take_step (t : ByteArray) (p : Int) (h0 : 0 ≤ p) (hp : p ≤ (t.size : Int)) (ht : (t.size : Int) ≤ 1048576) : ∀ (d j : Nat) (n M : Int), j + d = 4 → M = 128 ^ j → 0 ≤ n → n < M →
    ∃ sv sn ok, Ev (fun k => spec_l11Take.l0 k t p n M (p + j)) (sv, sn, ok) ∧ Ev (fun k => impl_reader_number.l0 k n (j : Int) t p false) (if ok = true then (sv, t, sn, false) else (0, t, p, true)) ∧ (ok = true → 0 ≤ sv ∧ sv ≤ 4000000 ∧ p ≤ sn ∧ sn ≤ (t.size : Int)) := by
  intro d
  have w4 : wrap64 (p + 4) = p + 4 := wrap_id (by omega) (by omega)
  induction d with
  | zero =>
    intro j n M hj hM hn0 hn1
    obtain rfl : j = 4 := by omega
    have c1 : ¬ ((4 : Nat) : Int) < 4 := by omega
    have c2 : ¬ (p + ((4 : Nat) : Int) < p + 4) := by omega
    refine ⟨0, 0, false, Ev.at_ (c := 2) (fun k => ?_), Ev.at_ (c := 1) (fun k => ?_), by simp⟩
    · by_cases c : p + ((4 : Nat) : Int) < (t.size : Int)
      · simp only [spec_l11Take.l0, spec_l11Take.j1, c, if_true, w4, c2, decide_false, Bool.false_eq_true, if_false]
      · simp only [spec_l11Take.l0, spec_l11Take.j1, c, Bool.false_eq_true, if_false]
    · simp only [impl_reader_number.l0, c1, if_false, Bool.false_eq_true]
  | succ d ih =>
    intro j n M hj hM hn0 hn1
    have hj4 : j < 4 := by omega
    have c1 : (j : Int) < 4 := by omega
    have c2 : p + (j : Int) < p + 4 := by omega
    have w1 : wrap64 (p + (j : Int)) = p + (j : Int) := wrap_id (by omega) (by omega)
    by_cases c : p + (j : Int) < (t.size : Int)
    · have hb := bt_range t (p + (j : Int))
      have wb : wrap64 (bt t (p + (j : Int))) = bt t (p + (j : Int)) := wrap_id (by omega) (by omega)
      generalize hbe : bt t (p + (j : Int)) = b at hb wb
      have hm : Int.tmod b 128 = b % 128 := Int.tmod_eq_emod_of_nonneg hb.1
      have h7 := wrap_7 hj4
      have hc0 : 0 ≤ b % 128 := by omega
      have hc1 : b % 128 < 128 := by omega
      have he := orshl j hj4 n (b % 128) hn0 (by rw [← hM]; exact hn1) hc0 hc1
      rw [← hM] at he
      have hpj : M ≤ 2097152 := by
        obtain rfl | rfl | rfl | rfl : j = 0 ∨ j = 1 ∨ j = 2 ∨ j = 3 := by omega
        all_goals (rw [hM]; decide)
      have hpj0 : 0 < M := by rw [hM]; exact Int.pow_pos (by decide)
      have hmul : (b % 128) * M ≤ 127 * M := Int.mul_le_mul_of_nonneg_right (by omega) (by omega)
      have hmul0 : 0 ≤ (b % 128) * M := Int.mul_nonneg hc0 (by omega)
      have hps := Aside0.mk (show M * 128 = 128 ^ (j + 1) by rw [hM]; exact (Int.pow_succ 128 j).symm)
      clear hM
      have ws : wrap64 ((b % 128) * M) = (b % 128) * M := wrap_id (by omega) (by omega)
      have wn : wrap64 (n + (b % 128) * M) = n + (b % 128) * M := wrap_id (by omega) (by omega)
      have wu : wrap64 (M * 128) = M * 128 := wrap_id (by omega) (by omega)
      have wi : wrap64 (p + (j : Int) + 1) = p + (j : Int) + 1 := wrap_id (by omega) (by omega)
      have wj : wrap64 ((j : Int) + 1) = ((j + 1 : Nat) : Int) := wrap_id (by omega) (by omega)
      have wk : wrap64 (p + ((j + 1 : Nat) : Int)) = p + (j : Int) + 1 := by
        rw [cast_]
        exact wi
      have ca : 0 ≤ p + (j : Int) := Int.add_nonneg h0 (Int.natCast_nonneg j)
      have cb : ¬ (p + (j : Int) ≥ (t.size : Int)) := Int.not_le.mpr c
      have ha := and127 b hb.1 (Int.lt_of_le_of_lt hb.2 (by decide))
      by_cases hlt : b < 128
      · by_cases hz : b = 0
        · have hn' : n + (b % 128) * M = n := by rw [hz]; simp
          by_cases hj0 : (j : Int) > 0
          · have ne := ne_ (p := p) hj0
            have hb0 : ¬ b > 0 := by rw [hz]; decide
            by_cases hm4 : n + (b % 128) * M ≤ 4000000
            · refine ⟨n + (b % 128) * M, p + (j : Int) + 1, false, Ev.at_ (c := 2) (fun k => ?_), Ev.at_ (c := 2) (fun k => ?_), by simp⟩
              · simp only [spec_l11Take.l0, spec_l11Take.j1, c, if_true, w4, c2, decide_true, ca, hbe, wb, hlt, hm, ws, wn, wi, hm4, hb0, if_false, ne]
              · simp only [impl_reader_number.l0, impl_reader_number.j1, c1, if_true, w1, cb, decide_false, Bool.false_eq_true, if_false, ca, c, h7, hbe, wb, hlt, if_pos hz, if_pos hj0]
            · refine ⟨n + (b % 128) * M, p + (j : Int) + 1, false, Ev.at_ (c := 2) (fun k => ?_), Ev.at_ (c := 2) (fun k => ?_), by simp⟩
              · simp only [spec_l11Take.l0, spec_l11Take.j1, c, if_true, w4, c2, decide_true, ca, hbe, wb, hlt, hm, ws, wn, wi, hm4, if_false]
              · simp only [impl_reader_number.l0, impl_reader_number.j1, c1, if_true, w1, cb, decide_false, Bool.false_eq_true, if_false, ca, c, h7, hbe, wb, hlt, if_pos hz, if_pos hj0]
          · have eq1 := eq_ (p := p) hj0 (Int.natCast_nonneg j)
            have hb0 : ¬ b > 0 := by rw [hz]; decide
            have hm4 : n + (b % 128) * M ≤ 4000000 := by rw [hn']; exact Int.le_trans (Int.le_of_lt hn1) (Int.le_trans hpj (by decide))
            have hm5 : ¬ (n + (b % 128) * M > 4000000) := Int.not_lt.mpr hm4
            refine ⟨n + (b % 128) * M, p + (j : Int) + 1, true, Ev.at_ (c := 2) (fun k => ?_), Ev.at_ (c := 2) (fun k => ?_), fun _ => ⟨Int.add_nonneg hn0 hmul0, hm4, le_a (Int.natCast_nonneg j), c⟩⟩
            · simp only [spec_l11Take.l0, spec_l11Take.j1, c, if_true, w4, c2, decide_true, ca, hbe, wb, hlt, hm, ws, wn, wi, hm4, hb0, if_false, eq1]
            · simp only [impl_reader_number.l0, impl_reader_number.j1, c1, if_true, w1, cb, decide_false, Bool.false_eq_true, if_false, ca, c, h7, hbe, wb, hlt, if_pos hz, hj0, ha, he, hm5, wj, wk, if_true]
        · have hb0 : b > 0 := pos_ hb.1 hz
          by_cases hm4 : n + (b % 128) * M ≤ 4000000
          · have hm5 : ¬ (n + (b % 128) * M > 4000000) := Int.not_lt.mpr hm4
            refine ⟨n + (b % 128) * M, p + (j : Int) + 1, true, Ev.at_ (c := 2) (fun k => ?_), Ev.at_ (c := 2) (fun k => ?_), fun _ => ⟨Int.add_nonneg hn0 hmul0, hm4, le_a (Int.natCast_nonneg j), c⟩⟩
            · simp only [spec_l11Take.l0, spec_l11Take.j1, c, if_true, w4, c2, decide_true, ca, hbe, wb, hlt, hm, ws, wn, wi, hm4, hb0]
            · simp only [impl_reader_number.l0, impl_reader_number.j1, c1, if_true, w1, cb, decide_false, Bool.false_eq_true, if_false, ca, c, h7, hbe, wb, hlt, if_neg hz, ha, he, hm5, wj, wk, if_true]
          · have hm5 : n + (b % 128) * M > 4000000 := Int.not_le.mp hm4
            refine ⟨n + (b % 128) * M, p + (j : Int) + 1, false, Ev.at_ (c := 2) (fun k => ?_), Ev.at_ (c := 2) (fun k => ?_), by simp⟩
            · simp only [spec_l11Take.l0, spec_l11Take.j1, c, if_true, w4, c2, decide_true, ca, hbe, wb, hlt, hm, ws, wn, wi, hm4, if_false]
            · simp only [impl_reader_number.l0, impl_reader_number.j1, c1, if_true, w1, cb, decide_false, Bool.false_eq_true, if_false, ca, c, h7, hbe, wb, hlt, if_neg hz, ha, he, hm5]
      · obtain ⟨sv, sn, ok, hs, hi, hk⟩ := ih (j + 1) (n + (b % 128) * M) (M * 128) (step_ hj) hps.out (Int.add_nonneg hn0 hmul0) (lt_ hn1 hmul)
        refine ⟨sv, sn, ok, Ev.shift (c := 2) (d := 0) (fun k => ?_) hs, Ev.shift (c := 2) (d := 0) (fun k => ?_) hi, hk⟩
        · have e1 := cast_ p j
          simp only [spec_l11Take.l0, spec_l11Take.j1, c, if_true, w4, c2, decide_true, ca, hbe, wb, hlt, if_false, hm, ws, wn, wi, wu, e1, Nat.add_zero]
        · simp only [impl_reader_number.l0, impl_reader_number.j1, c1, if_true, w1, cb, decide_false, Bool.false_eq_true, if_false, ca, c, h7, hbe, wb, hlt, ha, he, wj, Nat.add_zero]
    · have cb : p + (j : Int) ≥ (t.size : Int) := Int.not_lt.mp c
      refine ⟨0, 0, false, Ev.at_ (c := 2) (fun k => ?_), Ev.at_ (c := 2) (fun k => ?_), by simp⟩
      · simp only [spec_l11Take.l0, spec_l11Take.j1, c, Bool.false_eq_true, if_false]
      · simp only [impl_reader_number.l0, impl_reader_number.j1, c1, if_true, w1, cb, decide_true, Bool.false_eq_true, if_false]
theorem number_ev (t : ByteArray) (p : Int) (b : Bool) (h0 : 0 ≤ p) (hp : p ≤ (t.size : Int)) (ht : (t.size : Int) ≤ 1048576) :
    ∃ v a c, Ev (fun k => spec_l11Reader_number.f k t p b) (v, t, a, c) ∧ Ev (fun k => impl_reader_number.f k t p b) (v, t, a, c) ∧ 0 ≤ v ∧ v ≤ 4000000 ∧ p ≤ a ∧ a ≤ (t.size : Int) := by
  obtain ⟨sv, sn, ok, hs, hi, hk⟩ := take_step t p h0 hp ht 4 0 0 1 (by omega) (by decide) (by decide) (by decide)
  have e : p + ((0 : Nat) : Int) = p := by omega
  rw [e] at hs
  have hs' : Ev (fun k => spec_l11Take.f k t p) (sv, sn, ok) := hs
  cases b with
  | true =>
    refine ⟨0, p, true, ?_, Ev.at_ (c := 2) (fun k => ?_), by omega, by omega, by omega, hp⟩
    · unfold spec_l11Reader_number.f
      refine Ev.bind hs' ?_
      simp only [if_true]
      exact Ev.now _
    · have c4 : (0 : Int) < 4 := by decide
      simp only [impl_reader_number.f, impl_reader_number.l0, impl_reader_number.j1, c4, if_true]
  | false =>
    cases ok with
    | true =>
      obtain ⟨g0, g1, g2, g3⟩ := hk rfl
      refine ⟨sv, sn, false, ?_, ?_, g0, g1, g2, g3⟩
      · unfold spec_l11Reader_number.f
        refine Ev.bind hs' ?_
        simp only [Bool.false_eq_true, if_false, if_true]
        exact Ev.now _
      · simp only [if_true] at hi
        exact hi
    | false =>
      refine ⟨0, p, true, ?_, ?_, by omega, by omega, by omega, hp⟩
      · unfold spec_l11Reader_number.f
        refine Ev.bind hs' ?_
        simp only [Bool.false_eq_true, if_false]
        exact Ev.now _
      · simp only [Bool.false_eq_true, if_false] at hi
        exact hi
end Go.Proofs.Ytjkjnfooaglnkaa.Q
end

section
namespace Go.Proofs.Ytjkjnfooaglnkaa.Q
open Go.RowKit Go.Proofs.YtjkjnfooaglnkaaW.PrintWords Go.Proofs.YtjkjnfooaglnkaaW.PrintLast
set_option linter.unusedVariables false
set_option linter.unusedSimpArgs false
theorem few_ev (t : ByteArray) (p : Int) (b : Bool) (m : Int) (hm : 0 ≤ m) (h0 : 0 ≤ p) (hp : p ≤ (t.size : Int)) (ht : (t.size : Int) ≤ 1048576) :
    ∃ v a c, Ev (fun k => spec_l11Reader_count.f k t p b m) (v, t, a, c) ∧ Ev (fun k => impl_reader_few.f k t p b m) (v, t, a, c) ∧ 0 ≤ v ∧ v ≤ m ∧ 0 ≤ a ∧ a ≤ (t.size : Int) := by
  obtain ⟨v, a, c, hs, hi, g0, g1, g2, g3⟩ := number_ev t p b h0 hp ht
  by_cases hv : v > m
  · refine ⟨0, a, true, ?_, ?_, by omega, hm, by omega, g3⟩
    · unfold spec_l11Reader_count.f
      refine Ev.bind hs ?_
      simp only [if_pos hv]
      exact Ev.now _
    · unfold impl_reader_few.f
      refine Ev.bind hi ?_
      simp only [if_pos hv]
      exact Ev.now _
  · refine ⟨v, a, c, ?_, ?_, g0, by omega, by omega, g3⟩
    · unfold spec_l11Reader_count.f
      refine Ev.bind hs ?_
      simp only [if_neg hv]
      exact Ev.now _
    · unfold impl_reader_few.f
      refine Ev.bind hi ?_
      simp only [if_neg hv]
      exact Ev.now _
theorem text_ev (t : ByteArray) (p : Int) (b : Bool) (h0 : 0 ≤ p) (hp : p ≤ (t.size : Int)) (ht : (t.size : Int) ≤ 1048576) :
    ∃ s a c, Ev (fun k => spec_l11Reader_word.f k t p b) (s, t, a, c) ∧ Ev (fun k => impl_reader_text.f k t p b 12) (s, t, a, c) ∧ 0 ≤ a ∧ a ≤ (t.size : Int) := by
  obtain ⟨v, a, c, hs, hi, g0, g1, g2, g3⟩ := few_ev t p b 12 (by decide) h0 hp ht
  cases c with
  | true =>
    refine ⟨⟨#[]⟩, a, true, ?_, ?_, g2, g3⟩
    · unfold spec_l11Reader_word.f
      refine Ev.bind hs ?_
      simp only [if_true]
      exact Ev.now _
    · unfold impl_reader_text.f
      refine Ev.bind hi ?_
      simp only [if_true]
      exact Ev.now _
  | false =>
    have e1 : wrap64 (a + v) = a + v := wrap_id (by omega) (by omega)
    have e2 : wrap64 (a + v - v) = a := (wrap_id (by omega) (by omega)).trans (by omega)
    by_cases hv : a + v > (t.size : Int)
    · refine ⟨⟨#[]⟩, a, true, ?_, ?_, g2, g3⟩
      · unfold spec_l11Reader_word.f
        refine Ev.bind hs ?_
        simp only [Bool.false_eq_true, if_false, e1, if_pos hv]
        exact Ev.now _
      · unfold impl_reader_text.f
        refine Ev.bind hi ?_
        simp only [Bool.false_eq_true, if_false, e1, if_pos hv]
        exact Ev.now _
    · have c1 : a ≤ a + v := by omega
      have c2 : a + v ≤ (t.size : Int) := by omega
      refine ⟨t.extract a.toNat (a + v).toNat, a + v, false, ?_, ?_, by omega, c2⟩
      · unfold spec_l11Reader_word.f
        refine Ev.bind hs ?_
        simp only [Bool.false_eq_true, if_false, e1, e2, if_neg hv, if_pos g2, if_pos c1, if_pos c2]
        exact Ev.now _
      · unfold impl_reader_text.f
        refine Ev.bind hi ?_
        simp only [Bool.false_eq_true, if_false, e1, e2, if_neg hv, if_pos g2, if_pos c1, if_pos c2]
        exact Ev.now _
theorem value_ev (t : ByteArray) (p : Int) (b : Bool) (h0 : 0 ≤ p) (hp : p ≤ (t.size : Int)) (ht : (t.size : Int) ≤ 1048576) :
    ∃ v a c, Ev (fun k => spec_l11Reader_signed.f k t p b) (v, t, a, c) ∧ Ev (fun k => impl_reader_value.f k t p b) (v, t, a, c) ∧ 0 ≤ a ∧ a ≤ (t.size : Int) := by
  obtain ⟨v, a, c, hs, hi, g0, g1, g2, g3⟩ := number_ev t p b h0 hp ht
  by_cases hv : Int.tmod v 2 = 1
  · refine ⟨wrap64 (Int.tdiv (wrap64 (-(wrap64 (v + 1)))) 2), a, c, ?_, ?_, by omega, g3⟩
    · unfold spec_l11Reader_signed.f
      refine Ev.bind hs ?_
      simp only [if_pos hv]
      exact Ev.now _
    · unfold impl_reader_value.f
      refine Ev.bind hi ?_
      simp only [if_pos hv]
      exact Ev.now _
  · refine ⟨wrap64 (Int.tdiv v 2), a, c, ?_, ?_, by omega, g3⟩
    · unfold spec_l11Reader_signed.f
      refine Ev.bind hs ?_
      simp only [if_neg hv]
      exact Ev.now _
    · unfold impl_reader_value.f
      refine Ev.bind hi ?_
      simp only [if_neg hv]
      exact Ev.now _
theorem down_ (d : Nat) (h : d ≤ 1000) : wrap64 (((d + 1 : Nat) : Int) - 1) = (d : Int) := (wrap_id (by omega) (by omega)).trans (by omega)
theorem up_ (i : Nat) (h : i ≤ 1000) : wrap64 ((i : Int) + 1) = ((i + 1 : Nat) : Int) := (wrap_id (by omega) (by omega)).trans (by omega)
theorem entries_ev (t : ByteArray) (ht : (t.size : Int) ≤ 1048576) (ps : List Int) (n : Nat) (hn : n ≤ 1000) : ∀ (d i : Nat) (p : Int) (b : Bool) (m : List S90), i + d = n → m.length + d ≤ 1000 → 0 ≤ p → p ≤ (t.size : Int) →
    ∃ r a c, Ev (fun k => spec_l11Reader_commit.l1 k (d : Int) t p b ps m) (ps, r, t, a, c) ∧ Ev (fun k => impl_reader_commit.l1 k (n : Int) (i : Int) t p b ps m) (ps, r, t, a, c) ∧ r.length = m.length + d ∧ 0 ≤ a ∧ a ≤ (t.size : Int) := by
  intro d
  induction d with
  | zero =>
    intro i p b m hi hm h0 hp
    have c1 : ¬ (((0 : Nat) : Int) > 0) := by decide
    have c2 : ¬ ((i : Int) < (n : Int)) := by omega
    exact ⟨m, p, b, Ev.at_ (c := 1) (fun k => by simp only [spec_l11Reader_commit.l1, if_neg c1]), Ev.at_ (c := 1) (fun k => by simp only [impl_reader_commit.l1, if_neg c2]), rfl, h0, hp⟩
  | succ d ih =>
    intro i p b m hi hm h0 hp
    have c1 : ((d + 1 : Nat) : Int) > 0 := by omega
    have c2 : (i : Int) < (n : Int) := by omega
    have c3 : m.length < 5864062014805 := by omega
    obtain ⟨s, a1, b1, hs, hi1, g0, g1⟩ := text_ev t p b h0 hp ht
    obtain ⟨v, a2, b2, hv, hi2, g2, g3⟩ := value_ev t a1 b1 g0 g1 ht
    obtain ⟨r, a, c, hr, hi3, hl, g4, g5⟩ := ih (i + 1) a2 b2 (m ++ [(⟨s, v⟩ : S90)]) (by omega) (by rw [List.length_append]; simp only [List.length_cons, List.length_nil]; omega) g2 g3
    refine ⟨r, a, c, Ev.succ ?_, Ev.succ ?_, by rw [hl, List.length_append]; simp only [List.length_cons, List.length_nil]; omega, g4, g5⟩
    · simp only [spec_l11Reader_commit.l1, if_pos c1, if_pos c3, down_ d (by omega)]
      exact Ev.bind hs (Ev.bind hv hr)
    · simp only [impl_reader_commit.l1, if_pos c2, if_pos c3, up_ i (by omega)]
      exact Ev.bind hi1 (Ev.bind hi2 hi3)
theorem parents_ev (t : ByteArray) (ht : (t.size : Int) ≤ 1048576) (n : Nat) (hn : n ≤ 2) : ∀ (d i : Nat) (p : Int) (b : Bool) (ps : List Int), i + d = n → ps.length + d ≤ 1000 → 0 ≤ p → p ≤ (t.size : Int) →
    ∃ qs r a c, Ev (fun k => spec_l11Reader_commit.l0 k (d : Int) t p b ps []) (qs, r, t, a, c) ∧ Ev (fun k => impl_reader_commit.l0 k (n : Int) (i : Int) t p b ps) (qs, r, t, a, c) ∧ qs.length = ps.length + d ∧ r.length ≤ 12 ∧ 0 ≤ a ∧ a ≤ (t.size : Int) := by
  intro d
  induction d with
  | zero =>
    intro i p b ps hi hm h0 hp
    have c1 : ¬ (((0 : Nat) : Int) > 0) := by decide
    have c2 : ¬ ((i : Int) < (n : Int)) := by omega
    obtain ⟨v, a, c, hs, hi1, g0, g1, g2, g3⟩ := few_ev t p b 12 (by decide) h0 hp ht
    obtain ⟨m, rfl⟩ := Int.eq_ofNat_of_zero_le g0
    obtain ⟨r, a2, c3, hr, hi2, hl, g4, g5⟩ := entries_ev t ht ps m (by omega) m 0 a c [] (by omega) (by simp only [List.length_nil]; omega) g2 g3
    simp only [List.length_nil] at hl
    refine ⟨ps, r, a2, c3, Ev.succ ?_, Ev.succ ?_, rfl, by omega, g4, g5⟩
    · simp only [spec_l11Reader_commit.l0, if_neg c1]
      exact Ev.bind hs hr
    · simp only [impl_reader_commit.l0, if_neg c2]
      exact Ev.bind hi1 hi2
  | succ d ih =>
    intro i p b ps hi hm h0 hp
    have c1 : ((d + 1 : Nat) : Int) > 0 := by omega
    have c2 : (i : Int) < (n : Int) := by omega
    have c3 : ps.length < 17592186044416 := by omega
    obtain ⟨v, a1, b1, hs, hi1, _, _, g0, g1⟩ := number_ev t p b h0 hp ht
    obtain ⟨qs, r, a, c, hr, hi3, hl, g3, g4, g5⟩ := ih (i + 1) a1 b1 (ps ++ [v]) (by omega) (by rw [List.length_append]; simp only [List.length_cons, List.length_nil]; omega) (by omega) g1
    refine ⟨qs, r, a, c, Ev.succ ?_, Ev.succ ?_, by rw [hl, List.length_append]; simp only [List.length_cons, List.length_nil]; omega, g3, g4, g5⟩
    · simp only [spec_l11Reader_commit.l0, if_pos c1, if_pos c3, down_ d (by omega)]
      exact Ev.bind hs hr
    · simp only [impl_reader_commit.l0, if_pos c2, if_pos c3, up_ i (by omega)]
      exact Ev.bind hi1 hi3
theorem commit_ev (t : ByteArray) (ht : (t.size : Int) ≤ 1048576) :
    ∃ qs r a c, Ev (fun k => spec_l11Reader_commit.f k t 0 false) (qs, r, t, a, c) ∧ Ev (fun k => impl_reader_commit.f k t 0 false) (qs, r, t, a, c) ∧ qs.length ≤ 2 ∧ r.length ≤ 12 := by
  obtain ⟨v, a, c, hs, hi, g0, g1, g2, g3⟩ := few_ev t 0 false 2 (by decide) (by decide) (by omega) ht
  obtain ⟨n, rfl⟩ := Int.eq_ofNat_of_zero_le g0
  obtain ⟨qs, r, a2, c2, h2, hi2, hl, hr, _, _⟩ := parents_ev t ht n (by omega) n 0 a c [] (by omega) (by simp only [List.length_nil]; omega) g2 g3
  simp only [List.length_nil] at hl
  exact ⟨qs, r, a2, c2, Ev.bind hs h2, Ev.bind hi hi2, by omega, hr⟩
end Go.Proofs.Ytjkjnfooaglnkaa.Q
end

section
namespace Go.Proofs.Ytjkjnfooaglnkaa.Q
open Go.RowKit Go.Proofs.YtjkjnfooaglnkaaW.PrintWords Go.Proofs.YtjkjnfooaglnkaaW.PrintLast
theorem isValue_f (n : Int) : impl_isValue.f n = some (inB n (-1000000) 1000000) := by
  unfold impl_isValue.f impl_within.f inB
  by_cases h : (-1000000 : Int) ≤ n <;> simp [h]
theorem mapOK_l0 (l : List S90) (hlen : l.length ≤ 4611686018427387904) (d : Nat) : ∀ i : Nat, i + d = l.length → (∀ j, j < i → entAt l j = true) → Ev (fun k => impl_MapOK.l0 k l l (l.length : Int) (i : Int)) (mapB l) := by
  induction d with
  | zero =>
    intro i hi hp
    have e : mapB l = decide ((l.length : Int) ≤ 12) := by
      unfold mapB
      rw [allR_true (fun j hj => hp j (by omega)), Bool.and_true]
      by_cases h : l.length ≤ 12
      · rw [decide_eq_true h, decide_eq_true (by omega)]
      · rw [decide_eq_false h, decide_eq_false (by omega)]
    rw [e]
    exact Ev.step (f := fun _ => some (decide ((l.length : Int) ≤ 12))) (fun k => by simp only [impl_MapOK.l0]; rw [if_neg (by omega)]) (Ev.now _)
  | succ d ih =>
    intro i hi hp
    have hw : wrap64 ((i : Int) + 1) = ((i + 1 : Nat) : Int) := by unfold wrap64; omega
    have hbad : entAt l i = false → mapB l = false := fun h => by
      unfold mapB
      rw [allR_false (j := i) (by omega) h, Bool.and_false]
    have hgo : entAt l i = true → Ev (fun k => impl_MapOK.l0 k l l (l.length : Int) ((i + 1 : Nat) : Int)) (mapB l) := fun h => ih (i + 1) (by omega) (fun j hj => by
      by_cases e : j = i
      · rw [e]; exact h
      · exact hp j (by omega))
    have E : entAt l i = (nameB (rd_T90 l (i : Int)).f0 && inB (rd_T90 l (i : Int)).f1 (-1000000) 1000000 && (i == 0 || sblt (rd_T90 l ((i : Int) - 1)).f0 (rd_T90 l (i : Int)).f0)) := rfl
    have c1 : (i : Int) < (l.length : Int) := by omega
    have c2 : (0 : Int) ≤ (i : Int) := by omega
    cases hN : nameB (rd_T90 l (i : Int)).f0 with
    | false =>
      rw [hbad (by rw [E, hN]; rfl)]
      refine Ev.step (f := fun _ => some false) (fun k => ?_) (Ev.now _)
      simp only [impl_MapOK.l0, impl_NameOK.f, hN, if_pos c1, if_pos c2, Option.bind_some, Bool.false_eq_true, if_false]
    | true =>
      cases hV : inB (rd_T90 l (i : Int)).f1 (-1000000) 1000000 with
      | false =>
        rw [hbad (by rw [E, hN, hV]; rfl)]
        refine Ev.step (f := fun _ => some false) (fun k => ?_) (Ev.now _)
        simp only [impl_MapOK.l0, impl_NameOK.f, isValue_f, hN, hV, if_pos c1, if_pos c2, Option.bind_some, Bool.false_eq_true, if_false, if_true]
      | true =>
        by_cases hz : i = 0
        · have hg := hgo (by rw [E, hN, hV]; simp [hz])
          refine Ev.step (fun k => ?_) hg
          have c3 : ¬ ((i : Int) > 0) := by omega
          simp only [impl_MapOK.l0, impl_NameOK.f, isValue_f, hN, hV, if_pos c1, if_pos c2, if_neg c3, Option.bind_some, if_true, hw]
        · have c3 : (i : Int) > 0 := by omega
          have hw2 : wrap64 ((i : Int) - 1) = (i : Int) - 1 := by unfold wrap64; omega
          have c4 : (0 : Int) ≤ (i : Int) - 1 := by omega
          have c5 : (i : Int) - 1 < (l.length : Int) := by omega
          have z : (i == 0) = false := by simp [hz]
          cases hS : sblt (rd_T90 l ((i : Int) - 1)).f0 (rd_T90 l (i : Int)).f0 with
          | false =>
            rw [hbad (by rw [E, hN, hV, hS, z]; rfl)]
            have hS1 : Op.bytesLess (rd_T90 l ((i : Int) - 1)).f0.toList (rd_T90 l (i : Int)).f0.toList = false := hS
            refine Ev.step (f := fun _ => some false) (fun k => ?_) (Ev.now _)
            simp only [impl_MapOK.l0, impl_NameOK.f, isValue_f, hN, hV, hS1, hw2, if_pos c1, if_pos c2, if_pos c3, if_pos c4, if_pos c5, Option.bind_some, if_true, Bool.false_eq_true, if_false]
          | true =>
            have hg := hgo (by rw [E, hN, hV, hS]; simp)
            have hS1 : Op.bytesLess (rd_T90 l ((i : Int) - 1)).f0.toList (rd_T90 l (i : Int)).f0.toList = true := hS
            refine Ev.step (fun k => ?_) hg
            simp only [impl_MapOK.l0, impl_NameOK.f, isValue_f, hN, hV, hS1, hw2, if_pos c1, if_pos c2, if_pos c3, if_pos c4, if_pos c5, Option.bind_some, if_true, hw]
theorem mapOK_ev (l : List S90) (hlen : l.length ≤ 4611686018427387904) : Ev (fun k => impl_MapOK.f k l) (mapB l) := mapOK_l0 l hlen l.length 0 (by omega) (fun j hj => absurd hj (Nat.not_lt_zero _))
end Go.Proofs.Ytjkjnfooaglnkaa.Q
end

section
namespace Go.Proofs.Ytjkjnfooaglnkaa.Q
open Go.RowKit Go.Proofs.YtjkjnfooaglnkaaW.PrintWords Go.Proofs.YtjkjnfooaglnkaaW.PrintLast
theorem l01In_is (a b c : Int) : spec_l01In.f a b c = some (inB a b c) := by
  unfold spec_l01In.f inB
  by_cases h : b ≤ a <;> simp [h]
end Go.Proofs.Ytjkjnfooaglnkaa.Q
end

section
namespace Go.Proofs.Ytjkjnfooaglnkaa.Q
open Go.RowKit Go.Proofs.YtjkjnfooaglnkaaW.PrintWords Go.Proofs.YtjkjnfooaglnkaaW.PrintLast
set_option linter.unusedVariables false
set_option linter.unusedSimpArgs false
def looseB (ps : List Int) (m : List S90) : Bool :=
  mapB m && match ps with
  | [] => true
  | [a] => inB a 1 60
  | [a, b] => inB a 1 60 && (inB b 1 60 && b != a)
  | _ => false
theorem l11Loose_ev (ps : List Int) (m : List S90) : Ev (fun k => spec_l11Loose.f k ps m) (looseB ps m) := by
  unfold looseB
  have w0 : wrap64 (0 + 1) = 1 := by unfold wrap64; omega
  have w1 : wrap64 (1 + 1) = 2 := by unfold wrap64; omega
  cases hm : mapB m with
  | false =>
    refine Ev.at_ (c := 1) (fun k => ?_)
    simp only [spec_l11Loose.f, spec_l01OK.f, Option.bind_some, hm, Bool.false_eq_true, if_false, spec_l11Loose.j0, if_true, Bool.false_and]
  | true =>
    match ps with
    | [] =>
      refine Ev.at_ (c := 2) (fun k => ?_)
      simp only [spec_l11Loose.f, spec_l01OK.f, Option.bind_some, hm, if_true, List.length_nil, spec_l11Loose.j0, spec_l11Loose.l0]
      simp
    | [a] =>
      refine Ev.at_ (c := 4) (fun k => ?_)
      have r0 : rd [a] 0 = a := rfl
      simp only [spec_l11Loose.f, spec_l01OK.f, Option.bind_some, hm, if_true, List.length_cons, List.length_nil, spec_l11Loose.j0, spec_l11Loose.l0, l01In_is, r0, w0]
      cases inB a 1 60 <;> simp
    | [a, b] =>
      refine Ev.at_ (c := 5) (fun k => ?_)
      have r0 : rd [a, b] 0 = a := rfl
      have r1 : rd [a, b] 1 = b := rfl
      simp only [spec_l11Loose.f, spec_l01OK.f, Option.bind_some, hm, if_true, List.length_cons, List.length_nil, spec_l11Loose.j0, spec_l11Loose.l0, l01In_is, r0, r1, w0, w1, bne]
      by_cases hab : b = a
      · cases inB a 1 60 <;> cases inB b 1 60 <;> simp [hab]
      · cases inB a 1 60 <;> cases inB b 1 60 <;> simp [hab]
    | a :: b :: c :: r =>
      refine Ev.at_ (c := 1) (fun k => ?_)
      have h3 : (((a :: b :: c :: r).length : Nat) : Int) > 2 := by simp only [List.length_cons]; omega
      simp only [spec_l11Loose.f, spec_l01OK.f, Option.bind_some, hm, if_true, h3, decide_true, spec_l11Loose.j0, Bool.and_false]
theorem isEncodable_ev (ps : List Int) (m : List S90) (hm : m.length ≤ 1048576) : Ev (fun k => impl_Commit_isEncodable.f k ps m) (looseB ps m) := by
  unfold impl_Commit_isEncodable.f looseB
  refine Ev.bind (mapOK_ev m (by omega)) ?_
  cases mapB m with
  | false => simp only [Bool.false_eq_true, if_false, Bool.false_and]; exact Ev.now _
  | true =>
    simp only [if_true, Bool.true_and, areAllint_isHead.f]
    match ps with
    | [] =>
      refine Ev.at_ (c := 0) (fun k => ?_)
      simp
    | [a] =>
      refine Ev.at_ (c := 0) (fun k => ?_)
      cases h1 : inB a 1 60 <;> simp [h1]
    | [a, b] =>
      refine Ev.at_ (c := 0) (fun k => ?_)
      have r0 : rd [a, b] 0 = a := rfl
      have r1 : rd [a, b] 1 = b := rfl
      by_cases hab : a = b
      · subst hab
        cases h1 : inB a 1 60 <;> simp [h1, r0, r1]
      · have hba : ¬ b = a := fun h => hab h.symm
        have e1 : (a == b) = false := by rw [beq_eq_false_iff_ne]; exact hab
        have e2 : (b == a) = false := by rw [beq_eq_false_iff_ne]; exact hba
        cases h1 : inB a 1 60 <;> cases h2 : inB b 1 60 <;> simp [r0, r1, e1, e2, h1, h2, bne]
    | a :: b :: c :: r =>
      have h3 : ¬ (((a :: b :: c :: r).length : Nat) : Int) ≤ 2 := by simp only [List.length_cons]; omega
      simp only [h3, if_false]
      exact Ev.now _
end Go.Proofs.Ytjkjnfooaglnkaa.Q
end

section
namespace Go.Proofs.Ytjkjnfooaglnkaa.Q
open Go.RowKit Go.Proofs.YtjkjnfooaglnkaaW.PrintWords Go.Proofs.YtjkjnfooaglnkaaW.PrintLast
set_option linter.unusedVariables false
set_option linter.unusedSimpArgs false
theorem markText_l0 : ∀ (d : Nat) (n : Int) (s : ByteArray), 0 ≤ n → n ≤ 9223372036854775807 → n < 10 ^ d → s.size + d ≤ 1000 → ∃ r, Ev (fun k => laws_markText.l0 k n s) r := by
  intro d
  induction d with
  | zero =>
    intro n s h0 hn9 h1 hs
    have hn : ¬ n > 0 := by simp at h1; omega
    have hz : 1 + s.size ≤ 9223372036854775807 := by omega
    exact ⟨_, Ev.at_ (c := 1) (fun k => by simp only [laws_markText.l0, hn, if_false, hz, if_true]; rfl)⟩
  | succ d ih =>
    intro n s h0 hn9 h1 hs
    by_cases hn : n > 0
    · have e1 : Int.tdiv n 10 = n / 10 := Int.tdiv_eq_ediv_of_nonneg h0
      have h2 : n / 10 < 10 ^ d := by
        rw [Int.pow_succ] at h1
        omega
      have hw : wrap64 (n / 10) = n / 10 := by unfold wrap64; omega
      have hz : (strOfNums [(wrap64 (48 + (Int.tmod n 10))) % 256]).size = 1 := rfl
      have hz2 : 1 + s.size ≤ 9223372036854775807 := by omega
      obtain ⟨r, hr⟩ := ih (n / 10) (strOfNums [(wrap64 (48 + (Int.tmod n 10))) % 256] ++ s) (by omega) (by omega) h2 (by rw [ByteArray.size_append, hz]; omega)
      refine ⟨r, Ev.step (fun k => ?_) hr⟩
      simp only [laws_markText.l0, hn, if_true, Option.bind_some, hz, hz2, e1, hw]
    · have hz : 1 + s.size ≤ 9223372036854775807 := by omega
      exact ⟨_, Ev.at_ (c := 1) (fun k => by simp only [laws_markText.l0, hn, if_false, hz, if_true]; rfl)⟩
theorem markTexts : ∃ mt : Int → ByteArray, ∀ n, 0 ≤ n → n ≤ 1000000000 → Ev (fun k => laws_markText.f k n) (mt n) := by
  have h : ∀ n : Int, ∃ s, 0 ≤ n → n ≤ 1000000000 → Ev (fun k => laws_markText.f k n) s := by
    intro n
    by_cases h0 : 0 ≤ n ∧ n ≤ 1000000000
    · by_cases h1 : n ≤ 0
      · exact ⟨_, fun _ _ => Ev.at_ (c := 0) (fun k => by unfold laws_markText.f; rw [if_pos h1])⟩
      · obtain ⟨s, hs⟩ := markText_l0 10 n (⟨#[]⟩ : ByteArray) h0.1 (by omega) (by omega) (by decide)
        exact ⟨s, fun _ _ => Ev.congr (fun k => by unfold laws_markText.f; rw [if_neg h1]) hs⟩
    · exact ⟨ByteArray.empty, fun a b => absurd ⟨a, b⟩ h0⟩
  exact ⟨fun n => Classical.choose (h n), fun n => Classical.choose_spec (h n)⟩
theorem ev_mark_loop {α : Type} {L : Nat → List α → Int → Int → Option (Int × List α)} {H : Nat → List α → Int → Int → Option Int} {mk : α → Int → α} {c : Int} (hc : 0 ≤ c)
    (stepL : ∀ (l : List α) (m : Int) (i : Nat) (hi : i < l.length), l.length ≤ 1048576 → 0 ≤ m → m ≤ 900000000 → ∀ r, Ev (fun k => L k (l.set i (mk l[i] m)) (m + c) ((i + 1 : Nat) : Int)) r → Ev (fun k => L k l m (i : Int)) r)
    (stepH : ∀ (l : List α) (m : Int) (i : Nat) (hi : i < l.length) (y : α), l[i] = mk y m → l.length ≤ 1048576 → 0 ≤ m → m ≤ 900000000 → ∀ r, Ev (fun k => H k l (m + c) ((i + 1 : Nat) : Int)) r → Ev (fun k => H k l m (i : Int)) r)
    (doneL : ∀ (l : List α) (m : Int) k, L (k + 1) l m (l.length : Int) = some (m, l)) (doneH : ∀ (l : List α) (m : Int) k, H (k + 1) l m (l.length : Int) = some m)
    (l : List α) (m : Int) (hl : l.length ≤ 1048576) (h0 : 0 ≤ m) (hm : m + c * l.length ≤ 900000000) :
    ∃ l', l'.length = l.length ∧ Ev (fun k => L k l m 0) (m + c * l.length, l') ∧ Ev (fun k => H k l' m 0) (m + c * l.length) := by
  have key : ∀ (d i : Nat) (l : List α) (m : Int), i + d = l.length → l.length ≤ 1048576 → 0 ≤ m → m + c * d ≤ 900000000 →
      ∃ l', l'.length = l.length ∧ l'.take i = l.take i ∧ Ev (fun k => L k l m (i : Int)) (m + c * d, l') ∧ Ev (fun k => H k l' m (i : Int)) (m + c * d) := by
    intro d
    induction d with
    | zero =>
      intro i l m hi hl h0 hm
      obtain rfl : i = l.length := by omega
      refine ⟨l, rfl, rfl, ?_, ?_⟩
      · simp only [Int.natCast_zero, Int.mul_zero, Int.add_zero]
        exact Ev.at_ (c := 1) (doneL l m)
      · simp only [Int.natCast_zero, Int.mul_zero, Int.add_zero]
        exact Ev.at_ (c := 1) (doneH l m)
    | succ d ih =>
      intro i l m hi hl h0 hm
      have hil : i < l.length := by omega
      have e : m + c + c * (d : Int) = m + c * ((d + 1 : Nat) : Int) := by
        rw [Int.natCast_add, Int.natCast_one, Int.mul_add, Int.mul_one]
        omega
      have hcd : 0 ≤ c * (d : Int) := Int.mul_nonneg hc (Int.natCast_nonneg d)
      obtain ⟨l', hl', ht, hL, hH⟩ := ih (i + 1) (l.set i (mk l[i] m)) (m + c) (by rw [List.length_set]; omega) (by rw [List.length_set]; omega) (by omega) (by omega)
      rw [List.length_set] at hl'
      rw [e] at hL hH
      have hg : l'[i]'(by omega) = mk l[i] m := by
        have h1 : (l'.take (i + 1))[i]'(by rw [List.length_take]; omega) = ((l.set i (mk l[i] m)).take (i + 1))[i]'(by rw [List.length_take, List.length_set]; omega) := by simp only [ht]
        simpa using h1
      refine ⟨l', hl', ?_, stepL l m i hil hl h0 (by omega) _ hL, stepH l' m i (by omega) l[i] hg (by omega) h0 (by omega) _ hH⟩
      have h2 := congrArg (List.take i) ht
      rw [List.take_take, List.take_take, Nat.min_eq_left (by omega)] at h2
      rw [h2, List.take_set_of_le (Nat.le_refl _)]
  obtain ⟨l', h1, _, h3, h4⟩ := key l.length 0 l m (by omega) hl h0 hm
  exact ⟨l', h1, h3, h4⟩
end Go.Proofs.Ytjkjnfooaglnkaa.Q
end

section
namespace Go.Proofs.Ytjkjnfooaglnkaa.Q
open Go.RowKit Go.Proofs.YtjkjnfooaglnkaaW.PrintWords Go.Proofs.YtjkjnfooaglnkaaW.PrintLast
set_option linter.unusedVariables false
set_option linter.unusedSimpArgs false
theorem markIntS_ev (l : List Int) (m : Int) (hl : l.length ≤ 1048576) (h0 : 0 ≤ m) (hm : m + 1 * l.length ≤ 900000000) :
    ∃ l', l'.length = l.length ∧ Ev (fun k => laws_markIntS.f k l m) (m + 1 * l.length, l') ∧ Ev (fun k => laws_heldIntS.f k l' m) (m + 1 * l.length) := by
  have rd0 : ∀ (l : List Int) (i : Nat) (h : i < l.length), rd l (i : Int) = l[i] := fun l i h => by simp [rd, List.getD_eq_getElem?_getD, List.getElem?_eq_getElem h]
  refine ev_mark_loop (L := laws_markIntS.l0) (H := laws_heldIntS.l0) (mk := fun x m => m) (c := 1) (by omega) ?_ ?_ ?_ ?_ l m hl h0 hm
  · intro l m i hi hl h0 hm r hr
    have c1 : (i : Int) < (l.length : Int) := by omega
    have w := wrap_i (show i < 4611686018427387904 by omega)
    have w1 : wrap64 (m + 1) = m + 1 := by unfold wrap64; omega
    refine Ev.succ (g := fun k => laws_markIntS.l0 k l m (i : Int)) ?_
    simp only [laws_markIntS.l0, c1, if_true, Int.natCast_nonneg, Int.toNat_natCast, w, w1]
    exact hr
  · intro l m i hi y hy hl h0 hm r hr
    have c1 : (i : Int) < (l.length : Int) := by omega
    have w := wrap_i (show i < 4611686018427387904 by omega)
    have w1 : wrap64 (m + 1) = m + 1 := by unfold wrap64; omega
    refine Ev.succ (g := fun k => laws_heldIntS.l0 k l m (i : Int)) ?_
    simp only [laws_heldIntS.l0, c1, if_true, Int.natCast_nonneg, rd0 l i hi, hy, w, w1]
    exact hr
  · intro l m k
    simp only [laws_markIntS.l0]
    rw [if_neg (by omega)]
  · intro l m k
    simp only [laws_heldIntS.l0]
    rw [if_neg (by omega)]
end Go.Proofs.Ytjkjnfooaglnkaa.Q
end

section
namespace Go.Proofs.Ytjkjnfooaglnkaa.Q
open Go.RowKit Go.Proofs.YtjkjnfooaglnkaaW.PrintWords Go.Proofs.YtjkjnfooaglnkaaW.PrintLast
set_option linter.unusedVariables false
set_option linter.unusedSimpArgs false
theorem markEntryS_ev (l : List S90) (m : Int) (hl : l.length ≤ 1048576) (h0 : 0 ≤ m) (hm : m + 2 * l.length ≤ 900000000) :
    ∃ l', l'.length = l.length ∧ Ev (fun k => laws_markEntryS.f k l m) (m + 2 * l.length, l') ∧ Ev (fun k => laws_heldEntryS.f k l' m) (m + 2 * l.length) := by
  obtain ⟨mt, hmt⟩ := markTexts
  have rd0 : ∀ (l : List S90) (i : Nat) (h : i < l.length), rd_T90 l (i : Int) = l[i] := fun l i h => by simp [rd_T90, List.getD_eq_getElem?_getD, List.getElem?_eq_getElem h]
  have rd1 : ∀ (l : List S90) (i : Nat) (v : S90) (h : i < l.length), rd_T90 (l.set i v) (i : Int) = v := fun l i v h => by rw [rd0 _ _ (by rw [List.length_set]; exact h)]; simp
  refine ev_mark_loop (L := laws_markEntryS.l0) (H := laws_heldEntryS.l0) (mk := fun x m => ⟨mt (m), m + 1⟩) (c := 2) (by omega) ?_ ?_ ?_ ?_ l m hl h0 hm
  · intro l m i hi hl h0 hm r hr
    have c1 : (i : Int) < (l.length : Int) := by omega
    have w := wrap_i (show i < 4611686018427387904 by omega)
    have w1 : wrap64 (m + 1) = m + 1 := by unfold wrap64; omega
    have w2 : wrap64 (m + 1 + 1) = m + 2 := by unfold wrap64; omega
    refine Ev.succ (g := fun k => laws_markEntryS.l0 k l m (i : Int)) ?_
    simp only [laws_markEntryS.l0, c1, if_true, Int.natCast_nonneg, Option.bind_some, Int.toNat_natCast, rd0 l i hi, rd1 l i _ hi, List.set_set, w, w1, w2]
    refine Ev.bind (hmt (m) (by omega) (by omega)) ?_
    (try simp only [if_true, rd0 l i hi, rd1 l i _ hi, List.set_set, Option.bind_some, w1, w2, bne_self_eq_false, Bool.false_eq_true, if_false])
    exact hr
  · intro l m i hi y hy hl h0 hm r hr
    have c1 : (i : Int) < (l.length : Int) := by omega
    have w := wrap_i (show i < 4611686018427387904 by omega)
    have w1 : wrap64 (m + 1) = m + 1 := by unfold wrap64; omega
    have w2 : wrap64 (m + 1 + 1) = m + 2 := by unfold wrap64; omega
    refine Ev.succ (g := fun k => laws_heldEntryS.l0 k l m (i : Int)) ?_
    simp only [laws_heldEntryS.l0, c1, if_true, Int.natCast_nonneg, rd0 l i hi, hy, w, w1, w2, bne_self_eq_false, Bool.false_eq_true, if_false]
    refine Ev.bind (hmt (m) (by omega) (by omega)) ?_
    (try simp only [if_true, rd0 l i hi, rd1 l i _ hi, List.set_set, Option.bind_some, w1, w2, bne_self_eq_false, Bool.false_eq_true, if_false])
    exact hr
  · intro l m k
    simp only [laws_markEntryS.l0]
    rw [if_neg (by omega)]
  · intro l m k
    simp only [laws_heldEntryS.l0]
    rw [if_neg (by omega)]
end Go.Proofs.Ytjkjnfooaglnkaa.Q
end

section
namespace Go.Proofs.Ytjkjnfooaglnkaa.Pure
open Go.RowKit Go.Proofs.Ytjkjnfooaglnkaa.Q Go.Proofs.YtjkjnfooaglnkaaW.PrintWords Go.Proofs.YtjkjnfooaglnkaaW.PrintLast Go.Proofs.YtjkjnfooaglnkaaW.PrintMore
set_option linter.unusedVariables false
set_option linter.unusedSimpArgs false
theorem eqIntS_ev0 (l : List Int) (hl : l.length ≤ 1048576) : Ev (fun k => laws_eqIntS.f k l l) true := by
  have rdInt : ∀ {l : List Int} {i : Nat} (h : i < l.length), rd l (i : Int) = l[i] := fun {l i} h => by simp [rd, List.getD_eq_getElem?_getD, List.getElem?_eq_getElem h]
  obtain ⟨b, hb, h⟩ := ev_same_loop (L := fun k i => laws_eqIntS.l0 k l l i) (xs := l) (ys := l) rfl (fun i h1 h2 e k => by
    have c1 : (i : Int) < (l.length : Int) := by omega
    simp only [laws_eqIntS.l0, c1, Int.natCast_nonneg, if_true, wrap_i (show i < 4611686018427387904 by omega)]) (fun i h1 h2 e k => absurd rfl e) (fun k => by
    simp only [laws_eqIntS.l0]
    rw [if_neg (by omega)])
  obtain rfl : b = true := h.mpr rfl
  exact Ev.congr (f := fun k => laws_eqIntS.l0 k l l 0) (fun k => by unfold laws_eqIntS.f; rw [if_pos rfl]) hb
theorem eqEntry_refl0 (x : S90) : laws_eqEntry.f x.f0 x.f1 x.f0 x.f1 = some true := by
  unfold laws_eqEntry.f
  simp
theorem eqEntryS_ev (l : List S90) (h : l.length ≤ 1048576) : Ev (fun k => laws_eqEntryS.f k l l) true := by
  refine Ev.congr (f := fun k => laws_eqEntryS.l0 k l l 0) (fun k => ?_) ?_
  · unfold laws_eqEntryS.f
    rw [if_pos rfl]
  · exact ev_refl_loop (L := laws_eqEntryS.l0) (g := fun _ x y => laws_eqEntry.f x.f0 x.f1 y.f0 y.f1) (z := z90) (fun _ _ _ _ => rfl) l (by omega) (fun x _ => Ev.congr (fun _ => eqEntry_refl0 x) (Ev.now _))
theorem eqCommit_ev (ps : List Int) (m : List S90) (h0 : ps.length ≤ 1048576) (h1 : m.length ≤ 1048576) : Ev (fun k => laws_eqCommit.f k ps m ps m) true := by
  unfold laws_eqCommit.f
  refine Ev.bind (eqIntS_ev0 ps h0) ?_
  simp only [if_true]
  refine Ev.bind (eqEntryS_ev m h1) ?_
  simp only [if_true]
  exact Ev.now _
theorem decode_both (t : ByteArray) : ∃ ps m c, Ev (fun k => spec_DecodeCommit.f k t) (ps, m, c) ∧ Ev (fun k => impl_DecodeCommit.f k t) (ps, m, c) ∧ ps.length ≤ 2 ∧ m.length ≤ 12 := by
  unfold spec_DecodeCommit.f impl_DecodeCommit.f impl_isText.f
  by_cases h1 : (t.size : Int) > 65536
  · have h2 : ¬ (t.size : Int) ≤ 65536 := by omega
    exact ⟨[], [], 2, by simp only [h1, if_true]; exact Ev.now _, by simp only [Option.bind_some, h2, decide_false, Bool.false_eq_true, if_false]; exact Ev.now _, by simp, by simp⟩
  have h2 : (t.size : Int) ≤ 65536 := by omega
  simp only [h1, if_false, Option.bind_some, h2, decide_true, if_true]
  obtain ⟨qs, r, a, c, hs, hi, hq, hr⟩ := commit_ev t (by omega)
  cases c with
  | true =>
    refine ⟨[], [], 3, Ev.bind hs ?_, Ev.bind hi ?_, by simp, by simp⟩
    · simp only [if_true]
      exact Ev.now _
    · simp only [impl_reader_ends.f, if_true, Option.bind_some, Bool.false_eq_true, if_false]
      exact Ev.now _
  | false =>
    cases he : (a == (t.size : Int)) with
    | false =>
      have hn : (a != (t.size : Int)) = true := by rw [bne, he]; rfl
      refine ⟨[], [], 3, Ev.bind hs ?_, Ev.bind hi ?_, by simp, by simp⟩
      · simp only [Bool.false_eq_true, if_false, hn, if_true]
        exact Ev.now _
      · simp only [impl_reader_ends.f, Option.bind_some, Bool.false_eq_true, if_false, he]
        exact Ev.now _
    | true =>
      have hn : (a != (t.size : Int)) = false := by rw [bne, he]; rfl
      have e1 := l11Loose_ev qs r
      have e2 := isEncodable_ev qs r (by omega)
      cases hb : looseB qs r with
      | false =>
        rw [hb] at e1 e2
        refine ⟨[], [], 3, Ev.bind hs ?_, Ev.bind hi ?_, by simp, by simp⟩
        · simp only [Bool.false_eq_true, if_false, hn]
          refine Ev.bind e1 ?_
          simp only [Bool.false_eq_true, if_false]
          exact Ev.now _
        · simp only [impl_reader_ends.f, Option.bind_some, Bool.false_eq_true, if_false, he, if_true]
          refine Ev.bind e2 ?_
          simp only [Bool.false_eq_true, if_false]
          exact Ev.now _
      | true =>
        rw [hb] at e1 e2
        refine ⟨qs, r, 0, Ev.bind hs ?_, Ev.bind hi ?_, hq, hr⟩
        · simp only [Bool.false_eq_true, if_false, hn]
          refine Ev.bind e1 ?_
          simp only [if_true]
          exact Ev.now _
        · simp only [impl_reader_ends.f, Option.bind_some, Bool.false_eq_true, if_false, he, if_true]
          refine Ev.bind e2 ?_
          simp only [if_true]
          exact Ev.now _
theorem FnExactDecodeCommit : laws_FnExactDecodeCommit.Pure := by
  intro a0 w0
  refine Ev.rounds ?_
  unfold laws_FnExactDecodeCommit.f
  by_cases hn1 : (a0.size : Int) > 1048576
  · simp only [hn1, if_true]
    exact Ev.now _
  simp only [hn1, if_false]
  obtain ⟨ps, m, c, hs, hi, hp, hm⟩ := decode_both a0
  have he := eqCommit_ev ps m (by omega) (by omega)
  refine Ev.bind hs (Ev.bind hi (Ev.bind he ?_))
  simp only [if_true, bne_self_eq_false]
  refine Ev.succ ?_
  simp only [laws_FnExactDecodeCommit.j0, Bool.false_eq_true, if_false]
  obtain ⟨l1, _, m1, d1⟩ := markIntS_ev ps 1 (by omega) (by omega) (by omega)
  obtain ⟨l2, _, m2, d2⟩ := markEntryS_ev m (1 + 1 * ps.length) (by omega) (by omega) (by omega)
  have hM : Ev (fun k => laws_markCommit.f k ps m 1) (1 + 1 * (ps.length : Int) + 2 * (m.length : Int), l1, l2) := by
    unfold laws_markCommit.f
    exact Ev.bind m1 (Ev.bind m2 (Ev.now _))
  have n1 : ¬ (1 + 1 * (ps.length : Int) < 0) := by omega
  have n2 : ¬ (1 + 1 * (ps.length : Int) + 2 * (m.length : Int) < 0) := by omega
  have hH : Ev (fun k => laws_heldCommit.f k l1 l2 1) (1 + 1 * (ps.length : Int) + 2 * (m.length : Int)) := by
    unfold laws_heldCommit.f
    refine Ev.bind d1 ?_
    simp only [n1, if_false]
    refine Ev.bind d2 ?_
    simp only [n2, if_false]
    exact Ev.now _
  refine Ev.bind hM (Ev.bind hH ?_)
  simp only [n2, if_false, if_true]
  refine Ev.bind hi (Ev.bind he ?_)
  simp only [if_true, bne_self_eq_false]
  refine Ev.succ ?_
  simp only [laws_FnExactDecodeCommit.j1, Bool.false_eq_true, if_false]
  refine Ev.bind hH ?_
  simp only [n2, if_false, if_true]
  exact Ev.now _
end Go.Proofs.Ytjkjnfooaglnkaa.Pure
end
