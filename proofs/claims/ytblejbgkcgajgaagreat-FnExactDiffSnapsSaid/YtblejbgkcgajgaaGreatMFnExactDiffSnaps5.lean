/- Parts of the proof of the law FnExactDiffSnaps, joined into one text. -/
import Derived.Test.YtblejbgkcgajgaaGreatMFnExactDiffSnaps4
section
namespace Go.Proofs.YtblejbgkcgajgaaGreat.Q
open Go.RowKit Go.Proofs.YtblejbgkcgajgaaGreatW.PrintWords Go.Proofs.YtblejbgkcgajgaaGreatW.PrintLast Go.Proofs.YtblejbgkcgajgaaGreatW.PrintMore
attribute [local go_sem] max2_int min2_int max_two min_two max_three min_three max_four min_four   -- for this text's walks alone
set_option linter.unusedVariables false
set_option linter.unusedSimpArgs false
attribute [local go_sem] bin_leq bin_gtr bin_geq
def laws_eqBase.f (k : Nat) (l0_0 : List (S64)) (l0_1 : List (S92)) (l1_0 : List (S64)) (l1_1 : List (S92)) : Option (Bool) := (laws_eqCommitS.f k l0_0 l1_0).bind fun t350 => (if t350 = true then ((laws_eqRefS.f k l0_1 l1_1).bind fun t351 => (if t351 = true then (some true) else (some false))) else (some false))
set_option maxHeartbeats 8000000 in
set_option maxRecDepth 100000 in
theorem laws_eqBase.calls (k : Nat) (A0_0 : Option Addr) (c0_0 : Nat) (l0_0 : List (S64)) (A0_1 : Option Addr) (c0_1 : Nat) (l0_1 : List (S92)) (A1_0 : Option Addr) (c1_0 : Nat) (l1_0 : List (S64)) (A1_1 : Option Addr) (c1_1 : Nat) (l1_1 : List (S92)) (r : Bool) (w : World) (hr0_0 : Kd.C k64 w A0_0 l0_0.length l0_0) (hc0_0 : l0_0.length ≤ c0_0) (hr0_1 : Kd.C k92 w A0_1 l0_1.length l0_1) (hc0_1 : l0_1.length ≤ c0_1) (hr1_0 : Kd.C k64 w A1_0 l1_0.length l1_0) (hc1_0 : l1_0.length ≤ c1_0) (hr1_1 : Kd.C k92 w A1_1 l1_1.length l1_1) (hc1_1 : l1_1.length ≤ c1_1) (h : laws_eqBase.f k l0_0 l0_1 l1_0 l1_1 = some r) :
    Calls Tryz.prog 12 #[.agg #[.slice A0_0 l0_0.length c0_0, .slice A0_1 l0_1.length c0_1], .agg #[.slice A1_0 l1_0.length c1_0, .slice A1_1 l1_1.length c1_1]] w fun e w' => e = .returned (.bool r) ∧ Below w.heap.size w w' := by
  have hu36 := Tryz.underlying36
  have HR0_0 := Aside0.mk hr0_0
  have HC0_0 := Aside0.mk hc0_0
  clear hr0_0 hc0_0
  have HR0_1 := Aside0.mk hr0_1
  have HC0_1 := Aside0.mk hc0_1
  clear hr0_1 hc0_1
  have HR1_0 := Aside0.mk hr1_0
  have HC1_0 := Aside0.mk hc1_0
  clear hr1_0 hc1_0
  have HR1_1 := Aside0.mk hr1_1
  have HC1_1 := Aside0.mk hc1_1
  clear hr1_1 hc1_1
  have HB := Aside0.mk (Below.refl w.heap.size w)
  have H : ((laws_eqCommitS.f k l0_0 l1_0).bind fun t350 => (if t350 = true then ((laws_eqRefS.f k l0_1 l1_1).bind fun t351 => (if t351 = true then (some true) else (some false))) else (some false))) = some r := h
  clear h
  replace H := Option.bind_eq_some_iff.mp H
  obtain ⟨t350, A30, H⟩ := H
  replace H : (if t350 = true then ((laws_eqRefS.f k l0_1 l1_1).bind fun t351 => (if t351 = true then (some true) else (some false))) else (some false)) = some r := H
  have A3 := Aside0.mk A30
  clear A30
  by_cases c4 : t350 = true
  · subst c4
    have H1 : ((laws_eqRefS.f k l0_1 l1_1).bind fun t351 => (if t351 = true then (some true) else (some false))) = some r := by rw [if_pos rfl] at H; exact H
    clear H
    have H := H1
    clear H1
    replace H := Option.bind_eq_some_iff.mp H
    obtain ⟨t351, A50, H⟩ := H
    replace H : (if t351 = true then (some true) else (some false)) = some r := H
    have A5 := Aside0.mk A50
    clear A50
    by_cases c6 : t351 = true
    · subst c6
      have H1 : (some true) = some r := by rw [if_pos rfl] at H; exact H
      clear H
      have H := H1
      clear H1
      obtain rfl := Option.some.inj H
      go_enter Tryz.func12, Tryz.ntmps12
      go_wp2_with (first | ((with_reducible refine gate_dst (N := 2) rfl ?_); refine bE (N := 2) (cs := #[.slice A0_0 l0_0.length c0_0, .slice A0_1 l0_1.length c0_1]) (t := 36) ?_; intro gb348 hg w7 hbox hb; have n0_ := Aside0.mk (below_step (w := w) bW hb); have n1_ := Aside0.mk (hbox); have n2_ := Aside0.mk (gS (w := w) hg); have n3_ := n2_; clear HB; have HB := n0_; have BK348 := n1_; have GW348 := n2_; have GE348 := n3_; clear n0_ n1_ n2_ n3_; clear hb hbox hg) | ((with_reducible refine gate_dst (N := 3) rfl ?_); refine bE (N := 3) (cs := #[.slice A1_0 l1_0.length c1_0, .slice A1_1 l1_1.length c1_1]) (t := 36) ?_; intro gb349 hg w8 hbox hb; have n0_ := Aside0.mk (kb BK348 hb); have n1_ := Aside0.mk (below_step (w := w) bW hb); have n2_ := Aside0.mk (hbox); have n3_ := Aside0.mk (gS (w := w) hg); have n4_ := n3_; have n5_ := Aside0.mk (nL BK348 hg); have n6_ := Aside0.mk (nG BK348 hg); clear BK348; clear HB; have BK348 := n0_; have HB := n1_; have BK349 := n2_; have GW349 := n3_; have GE349 := n4_; have NB348_349 := n5_; have NB349_348 := n6_; clear n0_ n1_ n2_ n3_ n4_ n5_ n6_; clear hb hbox hg; have hnb9 := NB348_349.out; have hnc9 := NB349_348.out; obtain ⟨hcz10_0, hcz10_1⟩ := cz2 BK348; obtain ⟨hfz10_0, hfz10_1⟩ := fz2 BK348; obtain ⟨hcz11_0, hcz11_1⟩ := cz2 BK349; obtain ⟨hfz11_0, hfz11_1⟩ := fz2 BK349) | ((with_reducible refine gate_callee (f := 22) rfl ?_); refine goesL_ (some 9) rfl rfl Tryz.func22 (by kernel_rfl) rfl #[.slice A0_0 l0_0.length c0_0, .slice A1_0 l1_0.length c1_0] rfl gA ?_; (with_reducible refine (laws_eqCommitS.calls k _ _ l0_0 _ _ l1_0 true _ ?side1 ?side2 ?side3 ?side4 A3.out).mono ?_); (case side1 => exact cB HR0_0); (case side2 => exact HC0_0.out); (case side3 => exact cB HR1_0); (case side4 => exact HC1_0.out); rintro e w12 ⟨rfl, hb⟩; refine ⟨_, rfl, ?_⟩; have n0_ := Aside0.mk (kb BK348 hb); have n1_ := Aside0.mk (kb BK349 hb); have n2_ := Aside0.mk (below_step (w := w) bW hb); clear BK348; clear BK349; clear HB; have BK348 := n0_; have BK349 := n1_; have HB := n2_; clear n0_ n1_ n2_; (try clear hb); (try clear hb2); (try clear hk); (try clear hi); obtain ⟨hcz13_0, hcz13_1⟩ := cz2 BK348; obtain ⟨hfz13_0, hfz13_1⟩ := fz2 BK348; obtain ⟨hcz14_0, hcz14_1⟩ := cz2 BK349; obtain ⟨hfz14_0, hfz14_1⟩ := fz2 BK349) | ((with_reducible refine gate_callee (f := 36) rfl ?_); refine goesL_ (some 15) rfl rfl Tryz.func36 (by kernel_rfl) rfl #[.slice A0_1 l0_1.length c0_1, .slice A1_1 l1_1.length c1_1] rfl gA ?_; (with_reducible refine (laws_eqRefS.calls k _ _ l0_1 _ _ l1_1 true _ ?side1 ?side2 ?side3 ?side4 A5.out).mono ?_); (case side1 => exact cB HR0_1); (case side2 => exact HC0_1.out); (case side3 => exact cB HR1_1); (case side4 => exact HC1_1.out); rintro e w15 ⟨rfl, hb⟩; refine ⟨_, rfl, ?_⟩; have n0_ := Aside0.mk (kb BK348 hb); have n1_ := Aside0.mk (kb BK349 hb); have n2_ := Aside0.mk (below_step (w := w) bW hb); clear BK348; clear BK349; clear HB; have BK348 := n0_; have BK349 := n1_; have HB := n2_; clear n0_ n1_ n2_; (try clear hb); (try clear hb2); (try clear hk); (try clear hi)))
      go_ret
      exact ⟨rE, bW⟩
    · replace c6 := Bool.eq_false_iff.mpr c6
      subst c6
      have H1 : (some false) = some r := by rw [if_neg (show ¬ (false = true) by decide)] at H; exact H
      clear H
      have H := H1
      clear H1
      obtain rfl := Option.some.inj H
      go_enter Tryz.func12, Tryz.ntmps12
      go_wp2_with (first | ((with_reducible refine gate_dst (N := 2) rfl ?_); refine bE (N := 2) (cs := #[.slice A0_0 l0_0.length c0_0, .slice A0_1 l0_1.length c0_1]) (t := 36) ?_; intro gb348 hg w16 hbox hb; have n0_ := Aside0.mk (below_step (w := w) bW hb); have n1_ := Aside0.mk (hbox); have n2_ := Aside0.mk (gS (w := w) hg); have n3_ := n2_; clear HB; have HB := n0_; have BK348 := n1_; have GW348 := n2_; have GE348 := n3_; clear n0_ n1_ n2_ n3_; clear hb hbox hg) | ((with_reducible refine gate_dst (N := 3) rfl ?_); refine bE (N := 3) (cs := #[.slice A1_0 l1_0.length c1_0, .slice A1_1 l1_1.length c1_1]) (t := 36) ?_; intro gb349 hg w17 hbox hb; have n0_ := Aside0.mk (kb BK348 hb); have n1_ := Aside0.mk (below_step (w := w) bW hb); have n2_ := Aside0.mk (hbox); have n3_ := Aside0.mk (gS (w := w) hg); have n4_ := n3_; have n5_ := Aside0.mk (nL BK348 hg); have n6_ := Aside0.mk (nG BK348 hg); clear BK348; clear HB; have BK348 := n0_; have HB := n1_; have BK349 := n2_; have GW349 := n3_; have GE349 := n4_; have NB348_349 := n5_; have NB349_348 := n6_; clear n0_ n1_ n2_ n3_ n4_ n5_ n6_; clear hb hbox hg; have hnb18 := NB348_349.out; have hnc18 := NB349_348.out; obtain ⟨hcz19_0, hcz19_1⟩ := cz2 BK348; obtain ⟨hfz19_0, hfz19_1⟩ := fz2 BK348; obtain ⟨hcz20_0, hcz20_1⟩ := cz2 BK349; obtain ⟨hfz20_0, hfz20_1⟩ := fz2 BK349) | ((with_reducible refine gate_callee (f := 22) rfl ?_); refine goesL_ (some 9) rfl rfl Tryz.func22 (by kernel_rfl) rfl #[.slice A0_0 l0_0.length c0_0, .slice A1_0 l1_0.length c1_0] rfl gA ?_; (with_reducible refine (laws_eqCommitS.calls k _ _ l0_0 _ _ l1_0 true _ ?side1 ?side2 ?side3 ?side4 A3.out).mono ?_); (case side1 => exact cB HR0_0); (case side2 => exact HC0_0.out); (case side3 => exact cB HR1_0); (case side4 => exact HC1_0.out); rintro e w21 ⟨rfl, hb⟩; refine ⟨_, rfl, ?_⟩; have n0_ := Aside0.mk (kb BK348 hb); have n1_ := Aside0.mk (kb BK349 hb); have n2_ := Aside0.mk (below_step (w := w) bW hb); clear BK348; clear BK349; clear HB; have BK348 := n0_; have BK349 := n1_; have HB := n2_; clear n0_ n1_ n2_; (try clear hb); (try clear hb2); (try clear hk); (try clear hi); obtain ⟨hcz22_0, hcz22_1⟩ := cz2 BK348; obtain ⟨hfz22_0, hfz22_1⟩ := fz2 BK348; obtain ⟨hcz23_0, hcz23_1⟩ := cz2 BK349; obtain ⟨hfz23_0, hfz23_1⟩ := fz2 BK349) | ((with_reducible refine gate_callee (f := 36) rfl ?_); refine goesL_ (some 15) rfl rfl Tryz.func36 (by kernel_rfl) rfl #[.slice A0_1 l0_1.length c0_1, .slice A1_1 l1_1.length c1_1] rfl gA ?_; (with_reducible refine (laws_eqRefS.calls k _ _ l0_1 _ _ l1_1 false _ ?side1 ?side2 ?side3 ?side4 A5.out).mono ?_); (case side1 => exact cB HR0_1); (case side2 => exact HC0_1.out); (case side3 => exact cB HR1_1); (case side4 => exact HC1_1.out); rintro e w24 ⟨rfl, hb⟩; refine ⟨_, rfl, ?_⟩; have n0_ := Aside0.mk (kb BK348 hb); have n1_ := Aside0.mk (kb BK349 hb); have n2_ := Aside0.mk (below_step (w := w) bW hb); clear BK348; clear BK349; clear HB; have BK348 := n0_; have BK349 := n1_; have HB := n2_; clear n0_ n1_ n2_; (try clear hb); (try clear hb2); (try clear hk); (try clear hi)))
      go_ret
      exact ⟨rE, bW⟩
  · replace c4 := Bool.eq_false_iff.mpr c4
    subst c4
    have H1 : (some false) = some r := by rw [if_neg (show ¬ (false = true) by decide)] at H; exact H
    clear H
    have H := H1
    clear H1
    obtain rfl := Option.some.inj H
    go_enter Tryz.func12, Tryz.ntmps12
    go_wp2_with (first | ((with_reducible refine gate_dst (N := 2) rfl ?_); refine bE (N := 2) (cs := #[.slice A0_0 l0_0.length c0_0, .slice A0_1 l0_1.length c0_1]) (t := 36) ?_; intro gb348 hg w25 hbox hb; have n0_ := Aside0.mk (below_step (w := w) bW hb); have n1_ := Aside0.mk (hbox); have n2_ := Aside0.mk (gS (w := w) hg); have n3_ := n2_; clear HB; have HB := n0_; have BK348 := n1_; have GW348 := n2_; have GE348 := n3_; clear n0_ n1_ n2_ n3_; clear hb hbox hg) | ((with_reducible refine gate_dst (N := 3) rfl ?_); refine bE (N := 3) (cs := #[.slice A1_0 l1_0.length c1_0, .slice A1_1 l1_1.length c1_1]) (t := 36) ?_; intro gb349 hg w26 hbox hb; have n0_ := Aside0.mk (kb BK348 hb); have n1_ := Aside0.mk (below_step (w := w) bW hb); have n2_ := Aside0.mk (hbox); have n3_ := Aside0.mk (gS (w := w) hg); have n4_ := n3_; have n5_ := Aside0.mk (nL BK348 hg); have n6_ := Aside0.mk (nG BK348 hg); clear BK348; clear HB; have BK348 := n0_; have HB := n1_; have BK349 := n2_; have GW349 := n3_; have GE349 := n4_; have NB348_349 := n5_; have NB349_348 := n6_; clear n0_ n1_ n2_ n3_ n4_ n5_ n6_; clear hb hbox hg; have hnb27 := NB348_349.out; have hnc27 := NB349_348.out; obtain ⟨hcz28_0, hcz28_1⟩ := cz2 BK348; obtain ⟨hfz28_0, hfz28_1⟩ := fz2 BK348; obtain ⟨hcz29_0, hcz29_1⟩ := cz2 BK349; obtain ⟨hfz29_0, hfz29_1⟩ := fz2 BK349) | ((with_reducible refine gate_callee (f := 22) rfl ?_); refine goesL_ (some 9) rfl rfl Tryz.func22 (by kernel_rfl) rfl #[.slice A0_0 l0_0.length c0_0, .slice A1_0 l1_0.length c1_0] rfl gA ?_; (with_reducible refine (laws_eqCommitS.calls k _ _ l0_0 _ _ l1_0 false _ ?side1 ?side2 ?side3 ?side4 A3.out).mono ?_); (case side1 => exact cB HR0_0); (case side2 => exact HC0_0.out); (case side3 => exact cB HR1_0); (case side4 => exact HC1_0.out); rintro e w30 ⟨rfl, hb⟩; refine ⟨_, rfl, ?_⟩; have n0_ := Aside0.mk (kb BK348 hb); have n1_ := Aside0.mk (kb BK349 hb); have n2_ := Aside0.mk (below_step (w := w) bW hb); clear BK348; clear BK349; clear HB; have BK348 := n0_; have BK349 := n1_; have HB := n2_; clear n0_ n1_ n2_; (try clear hb); (try clear hb2); (try clear hk); (try clear hi)))
    go_ret
    exact ⟨rE, bW⟩
end Go.Proofs.YtblejbgkcgajgaaGreat.Q
end

section
namespace Go.Proofs.YtblejbgkcgajgaaGreat.Q
open Go.RowKit Go.Proofs.YtblejbgkcgajgaaGreatW.PrintWords Go.Proofs.YtblejbgkcgajgaaGreatW.PrintLast Go.Proofs.YtblejbgkcgajgaaGreatW.PrintMore
attribute [local go_sem] max2_int min2_int max_two min_two max_three min_three max_four min_four   -- for this text's walks alone
set_option linter.unusedVariables false
set_option linter.unusedSimpArgs false
attribute [local go_sem] bin_leq bin_gtr bin_geq
def laws_markText.l0 : Nat → Int → ByteArray → Option (ByteArray)
  | 0, _, _ => none
  | k + 1, x0, x3 => if x0 > 0 then ((some (([(wrap64 (48 + (Int.tmod x0 10))) % 256] : List Int) : List Int)).bind fun y352 => (if (strOfNums y352).size + x3.size ≤ 9223372036854775807 then (laws_markText.l0 k (wrap64 (Int.tdiv x0 10)) ((strOfNums y352) ++ x3)) else (none))) else (if 1 + x3.size ≤ 9223372036854775807 then (some ((⟨#[109]⟩ : ByteArray) ++ x3)) else (none))
def laws_markText.f (k : Nat) (a0 : Int) : Option (ByteArray) := if a0 ≤ 0 then (some (⟨#[109, 48]⟩ : ByteArray)) else (laws_markText.l0 k a0 (⟨#[]⟩ : ByteArray))
set_option maxHeartbeats 8000000 in
set_option maxRecDepth 100000 in
theorem laws_markText.calls (k : Nat) (a0 : Int) (r : ByteArray) (w : World) (h : laws_markText.f k a0 = some r) :
    Calls Tryz.prog 38 #[.int .i64 a0] w fun e w' => e = .returned (.string r) ∧ Below w.heap.size w w' := by
  have HB := Aside0.mk (Below.refl w.heap.size w)
  have H : (if a0 ≤ 0 then (some (⟨#[109, 48]⟩ : ByteArray)) else (laws_markText.l0 k a0 (⟨#[]⟩ : ByteArray))) = some r := h
  clear h
  by_cases c2 : a0 ≤ 0
  · rw [if_pos c2] at H
    have c2b0 : decide (a0 ≤ 0) = true := decide_eq_true c2
    clear c2
    obtain rfl := Option.some.inj H
    go_enter Tryz.func38, Tryz.ntmps38
    go_wp2
    go_ret
    exact ⟨rE, bW⟩
  · rw [if_neg c2] at H
    have c2b0 : decide (a0 ≤ 0) = false := decide_eq_false c2
    clear c2
    have H' := Aside0.mk H
    clear H
    go_enter Tryz.func38, Tryz.ntmps38
    go_wp2
    go_loopg [0, 3] k (fun kq v0 v3 w' => ∃ (x0_1 : Int) (x3_1 : ByteArray), v0 = .int .i64 x0_1 ∧ v3 = .string x3_1 ∧ Aside0 (laws_markText.l0 kq x0_1 x3_1 = some r) ∧ Aside0 (kq ≤ k) ∧ Aside0 (Below w.heap.size w w'))
    case atStart => exact ⟨(a0), ((⟨#[]⟩ : ByteArray)), vE, vE, H', ⟨Nat.le_refl _⟩, ⟨bW⟩⟩
    case round =>
      clear H'
      try clear c2
      try clear c2b0
      try clear p2
      obtain ⟨x0_1, x3_1, rfl, rfl, HA, HK1, HB⟩ := hrel
      cases gk with
      | zero => exact absurd HA.out (by simp [laws_markText.l0])
      | succ k1 =>
        have H := HA.out
        clear HA
        simp only [laws_markText.l0] at H
        by_cases c3 : x0_1 > 0
        · rw [if_pos c3] at H
          have c3b0 : decide (0 < x0_1) = true := decide_eq_true c3
          clear c3
          obtain ⟨y352, hy352⟩ : ∃ y_ : List Int, y_ = (([(wrap64 (48 + (Int.tmod x0_1 10))) % 256] : List Int)) := ⟨_, rfl⟩
          replace H : (if (strOfNums y352).size + x3_1.size ≤ 9223372036854775807 then (laws_markText.l0 k1 (wrap64 (Int.tdiv x0_1 10)) ((strOfNums y352) ++ x3_1)) else (none)) = some r := by first | (rw [hy352]; with_reducible exact H) | (have H2_ := (Option.bind_some _ _).symm.trans H; rw [hy352]; with_reducible exact H2_) | (have H2_ := (Option.bind_some _ _).symm.trans H; with_reducible exact H2_) | with_reducible exact H | (rw [hy352]; exact H) | exact H
          have Ny352 := Aside0.mk hy352
          clear hy352
          by_cases c4 : (strOfNums y352).size + x3_1.size ≤ 9223372036854775807
          · rw [if_pos c4] at H
            have c4b0 := eq_true c4
            have c4b1 : decide ((strOfNums y352).size + x3_1.size ≤ 9223372036854775807) = true := decide_eq_true c4
            try have c4b2 : (9223372036854775807 < (strOfNums y352).size + x3_1.size) = False := eq_false (Nat.not_lt.2 c4)
            have H' := Aside0.mk H
            clear H
            go_wp2_with (first | ((with_reducible refine gate_dst (N := 12) rfl ?_); refine Kd.R_lit (Kd.int .u8) _ 5 ?hg (N := 12) ?hd (xs := ([(wrap64 (48 + (Int.tmod x0_1 10))) % 256] : List Int)) (inner := [.int .u8 ((wrap64 (48 + (Int.tmod x0_1 10))) % 256)]) (ok := fun _ => True) (okp := fun _ => True) ?hr ?hp (fun _ hk => hk) trivial (Below.refl _ _) (Nat.le_refl _) (by simp) ?_; (case hd => rfl); (case hg => rfl); (case hr => first | (go_simp; done) | (go_simp; rfl)); (case hp => exact (Reps.one (show Kd.M (Kd.int .u8) _ _ _ ((wrap64 (48 + (Int.tmod x0_1 10))) % 256) [.int .u8 ((wrap64 (48 + (Int.tmod x0_1 10))) % 256)] from rfl) (Reps.none _ _))); intro v353 w5 ho6 hb hg_ hnew_; clear hg_ hnew_; (first | rw [← Ny352.out] at ho6 | (simp only [Int.reduceToNat] at ho6; rw [← Ny352.out] at ho6)); have n0_ := Aside0.mk (Kd.R_lower ho6 (below_size (w := w) bW)); have n1_ := Aside0.mk (below_step (w := w) bW hb); clear HB; have HO354 := n0_; have HB := n1_; clear n0_ n1_; clear hb ho6; have hcv7 := own_string (P := Tryz.prog) Tryz.underlying102 Tryz.underlying5 Tryz.underlying9 (Kd.own_of_R HO354.out)))
            go_roundg k1
            case measure => have := HK1.out; omega
            case rel => exact ⟨(wrap64 (Int.tdiv x0_1 10)), ((strOfNums y352) ++ x3_1), vE, vE, H', ⟨by have := HK1.out; omega⟩, ⟨bW⟩⟩
          · rw [if_neg c4] at H
            exact absurd H (by simp)
        · rw [if_neg c3] at H
          have c3b0 : decide (0 < x0_1) = false := decide_eq_false c3
          clear c3
          by_cases c8 : 1 + x3_1.size ≤ 9223372036854775807
          · rw [if_pos c8] at H
            have c8b0 := eq_true c8
            have c8b1 : decide (1 + x3_1.size ≤ 9223372036854775807) = true := decide_eq_true c8
            try have c8b2 : (9223372036854775807 < 1 + x3_1.size) = False := eq_false (Nat.not_lt.2 c8)
            obtain rfl := Option.some.inj H
            go_wp2
            go_ret
            exact ⟨rE, bW⟩
          · rw [if_neg c8] at H
            exact absurd H (by simp)
end Go.Proofs.YtblejbgkcgajgaaGreat.Q
end

section
namespace Go.Proofs.YtblejbgkcgajgaaGreat.Q
open Go.RowKit Go.Proofs.YtblejbgkcgajgaaGreatW.PrintWords Go.Proofs.YtblejbgkcgajgaaGreatW.PrintLast Go.Proofs.YtblejbgkcgajgaaGreatW.PrintMore
attribute [local go_sem] max2_int min2_int max_two min_two max_three min_three max_four min_four   -- for this text's walks alone
set_option linter.unusedVariables false
set_option linter.unusedSimpArgs false
attribute [local go_sem] bin_leq bin_gtr bin_geq
def laws_markEntryS.l0 : Nat → List (S84) → Int → Int → Option (Int × (List (S84)))
  | 0, _, _, _ => none
  | k + 1, x0, x1, x5 => if x5 < (x0.length : Int) then ((laws_markText.f k x1).bind fun t355 => (if 0 ≤ x5 then ((some (x0.set (x5 : Int).toNat (⟨t355, (rd_T84 x0 x5).f1⟩ : S84) : List (S84))).bind fun y356 => (laws_markEntryS.l0 k (y356.set (x5 : Int).toNat (⟨(rd_T84 y356 x5).f0, wrap64 (x1 + 1)⟩ : S84)) (wrap64 ((wrap64 (x1 + 1)) + 1)) (wrap64 (x5 + 1)))) else (none))) else (some (x1, x0))
def laws_markEntryS.f (k : Nat) (l0 : List (S84)) (a1 : Int) : Option (Int × (List (S84))) := laws_markEntryS.l0 k l0 a1 0
set_option maxHeartbeats 8000000 in
set_option maxRecDepth 100000 in
theorem laws_markEntryS.calls (k : Nat) (P0_ : Nat → Prop) (u9000_ : Value) (l0 : List (S84)) (a1 : Int) (r1 : Int) (r2 : List (S84)) (w0 w : World) (hB : Below w0.heap.size w0 w) (ho0 : Kd.R k84 84 w w0.heap.size P0_ u9000_ l0) (h : laws_markEntryS.f k l0 a1 = some (r1, r2)) :
    Calls Tryz.prog 24 #[u9000_, .int .i64 a1] w fun e w' => e = .returned (.int .i64 r1) ∧ Kd.R k84 84 w' w0.heap.size (fun k_ => (P0_ k_ ∨ w.heap.size ≤ k_)) u9000_ r2 ∧ Below w0.heap.size w0 w' ∧ Kept w w' (fun k_ => P0_ k_) := by
  have HO0 := Aside0.mk (show Kd.R k84 84 w w0.heap.size (fun k_ => (P0_ k_ ∨ w.heap.size ≤ k_)) u9000_ l0 from Kd.R_mono ho0 (fun k_ hk => (.inl hk)))
  have HK := Aside0.mk (Kept.refl w (fun k_ => P0_ k_))
  have HW0 := Aside0.mk hB.size
  have HB := Aside0.mk hB
  clear hB
  have H : (laws_markEntryS.l0 k l0 a1 0) = some (r1, r2) := h
  clear h
  have H' := Aside0.mk H
  clear H
  go_enter Tryz.func24, Tryz.ntmps24
  go_wp2
  go_loopg [1, 5] k (fun kq v1 v5 w' => ∃ (x0_1 : List (S84)) (x1_1 : Int) (x5_1 : Int), v1 = .int .i64 x1_1 ∧ v5 = .int .i64 x5_1 ∧ Aside0 (laws_markEntryS.l0 kq x0_1 x1_1 x5_1 = some (r1, r2)) ∧ Aside0 (kq ≤ k) ∧ Aside0 (Kd.R k84 84 w' w0.heap.size (fun k_ => (P0_ k_ ∨ w.heap.size ≤ k_)) u9000_ x0_1) ∧ Aside0 (Kept w w' (fun k_ => P0_ k_)) ∧ Aside0 (Below w0.heap.size w0 w'))
  case atStart => exact ⟨(l0), (a1), (0), vE, vE, H', ⟨Nat.le_refl _⟩, ⟨by exact HO0.out⟩, ⟨by repeat ((with_reducible exact HK.out))⟩, ⟨bW⟩⟩
  case round =>
    clear H'
    obtain ⟨x0_1, x1_1, x5_1, rfl, rfl, HA, HK1, HO_0, HK, HB⟩ := hrel
    cases gk with
    | zero => exact absurd HA.out (by simp [laws_markEntryS.l0])
    | succ k1 =>
      have H := HA.out
      clear HA
      simp only [laws_markEntryS.l0] at H
      by_cases c3 : x5_1 < (x0_1.length : Int)
      · rw [if_pos c3] at H
        have c3b0 : decide (x5_1 < (x0_1.length : Int)) = true := decide_eq_true c3
        clear c3
        replace H := Option.bind_eq_some_iff.mp H
        obtain ⟨t355, A40, H⟩ := H
        replace H : (if 0 ≤ x5_1 then ((some (x0_1.set (x5_1 : Int).toNat (⟨t355, (rd_T84 x0_1 x5_1).f1⟩ : S84) : List (S84))).bind fun y356 => (laws_markEntryS.l0 k1 (y356.set (x5_1 : Int).toNat (⟨(rd_T84 y356 x5_1).f0, wrap64 (x1_1 + 1)⟩ : S84)) (wrap64 ((wrap64 (x1_1 + 1)) + 1)) (wrap64 (x5_1 + 1)))) else (none)) = some (r1, r2) := H
        have A4 := Aside0.mk A40
        clear A40
        by_cases c5 : 0 ≤ x5_1
        · rw [if_pos c5] at H
          have c5b0 : decide (0 ≤ x5_1) = true := decide_eq_true c5
          clear c5
          obtain ⟨y356, hy356⟩ : ∃ y_ : List (S84), y_ = (x0_1.set (x5_1 : Int).toNat (⟨t355, (rd_T84 x0_1 x5_1).f1⟩ : S84)) := ⟨_, rfl⟩
          replace H : (laws_markEntryS.l0 k1 (y356.set (x5_1 : Int).toNat (⟨(rd_T84 y356 x5_1).f0, wrap64 (x1_1 + 1)⟩ : S84)) (wrap64 ((wrap64 (x1_1 + 1)) + 1)) (wrap64 (x5_1 + 1))) = some (r1, r2) := by (have H2_ := (Option.bind_some _ _).symm.trans H; rw [hy356]; with_reducible exact H2_)
          have Ny356 := Aside0.mk hy356
          clear hy356
          obtain ⟨y357, hy357⟩ : ∃ y_ : List (S84), y_ = (y356.set (x5_1 : Int).toNat (⟨(rd_T84 y356 x5_1).f0, wrap64 (x1_1 + 1)⟩ : S84)) := ⟨_, rfl⟩
          replace H : (laws_markEntryS.l0 k1 y357 (wrap64 ((wrap64 (x1_1 + 1)) + 1)) (wrap64 (x5_1 + 1))) = some (r1, r2) := by (rw [hy357]; with_reducible exact H)
          have Ny357 := Aside0.mk hy357
          clear hy357
          have H' := Aside0.mk H
          clear H
          obtain ⟨Ao8, co8, eo8⟩ := Kd.R_slice HO_0.out
          subst eo8
          go_wp2_with (first | ((with_reducible refine gate_callee (f := 38) rfl ?_); refine goesL_ (some 15) rfl rfl Tryz.func38 (by kernel_rfl) rfl #[.int .i64 x1_1] rfl gA ?_; (with_reducible refine (laws_markText.calls k1 x1_1 t355 _ A4.out).mono ?_); rintro e w9 ⟨rfl, hb⟩; refine ⟨_, rfl, ?_⟩; have n0_ := Aside0.mk (Kd.R_below (pR HO_0) hb); have n1_ := Aside0.mk (Kept.below (S := (fun k_ => P0_ k_)) (by repeat ((with_reducible exact HK.out))) hb); have n2_ := Aside0.mk (below_step (w := w0) bW hb); clear HO_0; clear HK; clear HB; have HO_0 := n0_; have HK := n1_; have HB := n2_; clear n0_ n1_ n2_; (try clear hb); have p6 : 0 ≤ (x5_1 : Int) := odt; have q6 : (x5_1 : Int) < ((x0_1.length : Int) : Int) := odt; obtain ⟨go6, co6, eo6, gb6, gl6, cl6, HG6⟩ := Kd.R_form HO_0.out (by omega); (cases eo6); have GB6 := Aside0.mk gb6; have GG6 := Aside0.mk HG6; clear gb6 gl6 HG6; have HMgo6 := Aside0.mk (show (P0_ go6 ∨ w.heap.size ≤ go6) from (HO_0.out.1 _ rfl)); obtain ⟨ce6, hcl6, hM6, hcc6, hfr6⟩ := Kd.R_elem HO_0.out z84 (x5_1 : Int) p6 q6; obtain rfl := k84_openM hM6; have hx6_0 : w9.cell? ⟨go6, (x5_1 : Int).toNat * 2, none⟩ = some (.string ((rd_T84 x0_1 x5_1).f0)) := hcc6 0 _ rfl; have hx6_1 : w9.cell? ⟨go6, (x5_1 : Int).toNat * 2 + 1, none⟩ = some (.int .i64 ((rd_T84 x0_1 x5_1).f1)) := hcc6 1 _ rfl; have hf6_0 : w9.frozen? ⟨go6, (x5_1 : Int).toNat * 2, none⟩ = false := hfr6 0; have hf6_1 : w9.frozen? ⟨go6, (x5_1 : Int).toNat * 2 + 1, none⟩ = false := hfr6 1; clear hcl6 hcc6 hfr6 hM6; replace p6 := eq_true p6; replace q6 := eq_true q6; have HX10 := Aside0.mk (show Kd.R k84 84 w9 w0.heap.size (fun k_ => (P0_ k_ ∨ w.heap.size ≤ k_)) (.slice (some ⟨go6, 0, none⟩) x0_1.length co8) x0_1 from (pR HO_0)); obtain ⟨ce10, hcl10, hM10, hcc10, hfr10⟩ := Kd.R_elem HX10.out z84 (x5_1 : Int) (odt) (by have h_ : (x5_1 : Int) < ((x0_1.length : Int) : Int) := odt; exact h_); obtain rfl := k84_openM hM10; have HP10 := Kd.R_seg HX10.out (x5_1 : Int) (odt) (by have h_ : (x5_1 : Int) < ((x0_1.length : Int) : Int) := odt; exact h_) (seg := [.string t355]) (j := 0) hcl10 hcc10 (show 1 ≤ 2 from by decide) (x' := (⟨t355, (rd_T84 x0_1 x5_1).f1⟩ : S84)) (k84_mkM _ _ _ (⟨t355, (rd_T84 x0_1 x5_1).f1⟩ : S84) ) (fun _ hk => hk); have hx10_0 := hcc10 0 _ rfl; (try simp only [show (k84).sz = 2 from rfl, Nat.mul_one, Nat.add_zero] at hx10_0); have hf10_0 := hfr10 0; (try simp only [show (k84).sz = 2 from rfl, Nat.mul_one, Nat.add_zero] at hf10_0); clear hcl10 hcc10 hfr10 hM10) | ((with_reducible refine gate_store (t := 9) (p := 17) rfl ?_); refine store_event (t := 9) (p := 17) (v := ?vo_w11) (w1 := (w9.setCell ⟨go6, (x5_1 : Int).toNat * 2, none⟩ (.string t355))) ?hg ?ho ?hn ?hr ?_; (case ho => rfl); (case hg => rfl); (case hn => rfl); (case hr => (go_simp; done)); intro w11 hw; have hg : w9.grownBy w11 (some go6) := (by rw [hw]; exact HP10.2); have hp_ : Kd.R k84 84 w11 w0.heap.size (fun k_ => (P0_ k_ ∨ w.heap.size ≤ k_)) (.slice (some ⟨go6, 0, none⟩) x0_1.length co8) y356 := (by rw [hw, Ny356.out]; exact HP10.1); clear HP10; have n0_ := Aside0.mk (hp_); have n1_ := Aside0.mk ((by rw [hw]; exact below_set (HB.out) GB6.out : Below w0.heap.size w0 w11)); have n2_ := Aside0.mk (Kept.of_grown (S := (fun k_ => P0_ k_)) hg (by repeat ((with_reducible exact HK.out))) (fun k_ e_ => (HO_0.out.1 k_ e_))); clear HO_0; clear HB; clear HK; have HO_0 := n0_; have HB := n1_; have HK := n2_; clear n0_ n1_ n2_; clear hg hw hp_; have p7 : 0 ≤ (x5_1 : Int) := odt; have q7 : (x5_1 : Int) < ((x0_1.length : Int) : Int) := odt; obtain ⟨ce7, hcl7, hM7, hcc7, hfr7⟩ := Kd.R_elem HO_0.out z84 (x5_1 : Int) p7 q7; obtain rfl := k84_openM hM7; have hx7_0 : w11.cell? ⟨go6, (x5_1 : Int).toNat * 2, none⟩ = some (.string ((rd_T84 y356 x5_1).f0)) := hcc7 0 _ rfl; have hx7_1 : w11.cell? ⟨go6, (x5_1 : Int).toNat * 2 + 1, none⟩ = some (.int .i64 ((rd_T84 y356 x5_1).f1)) := hcc7 1 _ rfl; have hf7_0 : w11.frozen? ⟨go6, (x5_1 : Int).toNat * 2, none⟩ = false := hfr7 0; have hf7_1 : w11.frozen? ⟨go6, (x5_1 : Int).toNat * 2 + 1, none⟩ = false := hfr7 1; clear hcl7 hcc7 hfr7 hM7; replace p7 := eq_true p7; replace q7 := eq_true q7; have HX12 := Aside0.mk (show Kd.R k84 84 w11 w0.heap.size (fun k_ => (P0_ k_ ∨ w.heap.size ≤ k_)) (.slice (some ⟨go6, 0, none⟩) x0_1.length co8) y356 from (pR HO_0)); obtain ⟨ce12, hcl12, hM12, hcc12, hfr12⟩ := Kd.R_elem HX12.out z84 (x5_1 : Int) (odt) (by have h_ : (x5_1 : Int) < ((x0_1.length : Int) : Int) := odt; exact h_); obtain rfl := k84_openM hM12; have HP12 := Kd.R_seg HX12.out (x5_1 : Int) (odt) (by have h_ : (x5_1 : Int) < ((x0_1.length : Int) : Int) := odt; exact h_) (seg := [.int .i64 (wrap64 (x1_1 + 1))]) (j := 1) hcl12 hcc12 (show 2 ≤ 2 from by decide) (x' := (⟨(rd_T84 y356 x5_1).f0, wrap64 (x1_1 + 1)⟩ : S84)) (k84_mkM _ _ _ (⟨(rd_T84 y356 x5_1).f0, wrap64 (x1_1 + 1)⟩ : S84) ) (fun _ hk => hk); have hx12_1 := hcc12 1 _ rfl; (try simp only [show (k84).sz = 2 from rfl, Nat.mul_one, Nat.add_zero] at hx12_1); have hf12_1 := hfr12 1; (try simp only [show (k84).sz = 2 from rfl, Nat.mul_one, Nat.add_zero] at hf12_1); clear hcl12 hcc12 hfr12 hM12) | ((with_reducible refine gate_store (t := 3) (p := 24) rfl ?_); refine store_event (t := 3) (p := 24) (v := ?vo_w13) (w1 := (w11.setCell ⟨go6, (x5_1 : Int).toNat * 2 + 1, none⟩ (.int .i64 (wrap64 (x1_1 + 1))))) ?hg ?ho ?hn ?hr ?_; (case ho => rfl); (case hg => rfl); (case hn => rfl); (case hr => (go_simp; done)); intro w13 hw; have hg : w11.grownBy w13 (some go6) := (by rw [hw]; exact HP12.2); have hp_ : Kd.R k84 84 w13 w0.heap.size (fun k_ => (P0_ k_ ∨ w.heap.size ≤ k_)) (.slice (some ⟨go6, 0, none⟩) x0_1.length co8) y357 := (by rw [hw, Ny357.out]; exact HP12.1); clear HP12; have n0_ := Aside0.mk (hp_); have n1_ := Aside0.mk ((by rw [hw]; exact below_set (HB.out) GB6.out : Below w0.heap.size w0 w13)); have n2_ := Aside0.mk (Kept.of_grown (S := (fun k_ => P0_ k_)) hg (by repeat ((with_reducible exact HK.out))) (fun k_ e_ => (HO_0.out.1 k_ e_))); clear HO_0; clear HB; clear HK; have HO_0 := n0_; have HB := n1_; have HK := n2_; clear n0_ n1_ n2_; clear hg hw hp_))
          go_roundg k1
          case measure => have := HK1.out; omega
          case rel => exact ⟨(y357), (wrap64 ((wrap64 (x1_1 + 1)) + 1)), (wrap64 (x5_1 + 1)), vE, vE, H', ⟨by have := HK1.out; omega⟩, ⟨by exact HO_0.out⟩, ⟨by repeat ((with_reducible exact HK.out))⟩, ⟨bW⟩⟩
        · rw [if_neg c5] at H
          exact absurd H (by simp)
      · rw [if_neg c3] at H
        have c3b0 : decide (x5_1 < (x0_1.length : Int)) = false := decide_eq_false c3
        clear c3
        simp only [Option.some.injEq, Prod.mk.injEq] at H
        obtain ⟨rfl, rfl⟩ := H
        obtain ⟨Ao14, co14, eo14⟩ := Kd.R_slice HO_0.out
        subst eo14
        go_wp2
        go_ret
        exact ⟨rE, by exact HO_0.out, by repeat ((with_reducible exact HB.out)), by repeat ((with_reducible exact HK.out))⟩
end Go.Proofs.YtblejbgkcgajgaaGreat.Q
end

section
namespace Go.Proofs.YtblejbgkcgajgaaGreat.Q
open Go.RowKit Go.Proofs.YtblejbgkcgajgaaGreatW.PrintWords Go.Proofs.YtblejbgkcgajgaaGreatW.PrintLast Go.Proofs.YtblejbgkcgajgaaGreatW.PrintMore
attribute [local go_sem] max2_int min2_int max_two min_two max_three min_three max_four min_four   -- for this text's walks alone
set_option linter.unusedVariables false
set_option linter.unusedSimpArgs false
attribute [local go_sem] bin_leq bin_gtr bin_geq
def laws_markIntS.l0 : Nat → List Int → Int → Int → Option (Int × List Int)
  | 0, _, _, _ => none
  | k + 1, x0, x1, x5 => if x5 < (x0.length : Int) then (if 0 ≤ x5 then (laws_markIntS.l0 k (x0.set (x5 : Int).toNat x1) (wrap64 (x1 + 1)) (wrap64 (x5 + 1))) else (none)) else (some (x1, x0))
def laws_markIntS.f (k : Nat) (l0 : List Int) (a1 : Int) : Option (Int × List Int) := laws_markIntS.l0 k l0 a1 0
set_option maxHeartbeats 8000000 in
set_option maxRecDepth 100000 in
theorem laws_markIntS.calls (k : Nat) (P0_ : Nat → Prop) (u9000_ : Value) (l0 : List Int) (a1 : Int) (r1 : Int) (r2 : List Int) (w0 w : World) (hB : Below w0.heap.size w0 w) (ho0 : Kd.R (Kd.int .i64) 3 w w0.heap.size P0_ u9000_ l0) (h : laws_markIntS.f k l0 a1 = some (r1, r2)) :
    Calls Tryz.prog 49 #[u9000_, .int .i64 a1] w fun e w' => e = .returned (.int .i64 r1) ∧ Kd.R (Kd.int .i64) 3 w' w0.heap.size (fun k_ => (P0_ k_ ∨ w.heap.size ≤ k_)) u9000_ r2 ∧ Below w0.heap.size w0 w' ∧ Kept w w' (fun k_ => P0_ k_) := by
  have HO0 := Aside0.mk (show Kd.R (Kd.int .i64) 3 w w0.heap.size (fun k_ => (P0_ k_ ∨ w.heap.size ≤ k_)) u9000_ l0 from Kd.R_mono ho0 (fun k_ hk => (.inl hk)))
  have HK := Aside0.mk (Kept.refl w (fun k_ => P0_ k_))
  have HW0 := Aside0.mk hB.size
  have HB := Aside0.mk hB
  clear hB
  have H : (laws_markIntS.l0 k l0 a1 0) = some (r1, r2) := h
  clear h
  have H' := Aside0.mk H
  clear H
  go_enter Tryz.func49, Tryz.ntmps49
  go_wp2
  go_loopg [1, 5] k (fun kq v1 v5 w' => ∃ (x0_1 : List Int) (x1_1 : Int) (x5_1 : Int), v1 = .int .i64 x1_1 ∧ v5 = .int .i64 x5_1 ∧ Aside0 (laws_markIntS.l0 kq x0_1 x1_1 x5_1 = some (r1, r2)) ∧ Aside0 (kq ≤ k) ∧ Aside0 (Kd.R (Kd.int .i64) 3 w' w0.heap.size (fun k_ => (P0_ k_ ∨ w.heap.size ≤ k_)) u9000_ x0_1) ∧ Aside0 (Kept w w' (fun k_ => P0_ k_)) ∧ Aside0 (Below w0.heap.size w0 w'))
  case atStart => exact ⟨(l0), (a1), (0), vE, vE, H', ⟨Nat.le_refl _⟩, ⟨by exact HO0.out⟩, ⟨by repeat ((with_reducible exact HK.out))⟩, ⟨bW⟩⟩
  case round =>
    clear H'
    obtain ⟨x0_1, x1_1, x5_1, rfl, rfl, HA, HK1, HO_0, HK, HB⟩ := hrel
    cases gk with
    | zero => exact absurd HA.out (by simp [laws_markIntS.l0])
    | succ k1 =>
      have H := HA.out
      clear HA
      simp only [laws_markIntS.l0] at H
      by_cases c3 : x5_1 < (x0_1.length : Int)
      · rw [if_pos c3] at H
        have c3b0 : decide (x5_1 < (x0_1.length : Int)) = true := decide_eq_true c3
        clear c3
        by_cases c4 : 0 ≤ x5_1
        · rw [if_pos c4] at H
          have c4b0 : decide (0 ≤ x5_1) = true := decide_eq_true c4
          clear c4
          obtain ⟨y358, hy358⟩ : ∃ y_ : List Int, y_ = (x0_1.set (x5_1 : Int).toNat x1_1) := ⟨_, rfl⟩
          replace H : (laws_markIntS.l0 k1 y358 (wrap64 (x1_1 + 1)) (wrap64 (x5_1 + 1))) = some (r1, r2) := by (rw [hy358]; with_reducible exact H)
          have Ny358 := Aside0.mk hy358
          clear hy358
          have H' := Aside0.mk H
          clear H
          obtain ⟨Ao6, co6, eo6⟩ := Kd.R_slice HO_0.out
          subst eo6
          have p5 : 0 ≤ (x5_1 : Int) := odt
          have q5 : (x5_1 : Int) < ((x0_1.length : Int) : Int) := odt
          obtain ⟨go5, co5, eo5, gb5, gl5, cl5, HG5⟩ := Kd.R_form HO_0.out (by omega)
          (cases eo5)
          have GB5 := Aside0.mk gb5
          have GG5 := Aside0.mk HG5
          clear gb5 gl5 HG5
          have HMgo5 := Aside0.mk (show (P0_ go5 ∨ w.heap.size ≤ go5) from (HO_0.out.1 _ rfl))
          obtain ⟨hx5_0, hf5_0⟩ := Kd.R_celln 0 HO_0.out (x5_1 : Int) p5 q5
          replace p5 := eq_true p5
          replace q5 := eq_true q5
          have HP7 := Kd.R_putg HO_0.out (x5_1 : Int) x1_1
          go_wp2_with (((with_reducible refine gate_store (t := 3) (p := 15) rfl ?_); refine store_event (t := 3) (p := 15) (v := ?vo_w8) (w1 := (wr.setCell ⟨go5, (x5_1 : Int).toNat, none⟩ (.int .i64 x1_1))) ?hg ?ho ?hn ?hr ?_; (case ho => rfl); (case hg => rfl); (case hn => rfl); (case hr => (go_simp; done)); intro w8 hw; have hg : wr.grownBy w8 (some go5) := (by rw [hw]; exact HP7.2); have hp_ : Kd.R (Kd.int .i64) 3 w8 w0.heap.size (fun k_ => (P0_ k_ ∨ w.heap.size ≤ k_)) (.slice (some ⟨go5, 0, none⟩) x0_1.length co6) y358 := (by rw [hw, Ny358.out]; exact HP7.1); clear HP7; have n0_ := Aside0.mk (hp_); have n1_ := Aside0.mk ((by rw [hw]; exact below_set (HB.out) GB5.out : Below w0.heap.size w0 w8)); have n2_ := Aside0.mk (Kept.of_grown (S := (fun k_ => P0_ k_)) hg (by repeat ((with_reducible exact HK.out))) (fun k_ e_ => (HO_0.out.1 k_ e_))); clear HO_0; clear HB; clear HK; have HO_0 := n0_; have HB := n1_; have HK := n2_; clear n0_ n1_ n2_; clear hg hw hp_))
          go_roundg k1
          case measure => have := HK1.out; omega
          case rel => exact ⟨(y358), (wrap64 (x1_1 + 1)), (wrap64 (x5_1 + 1)), vE, vE, H', ⟨by have := HK1.out; omega⟩, ⟨by exact HO_0.out⟩, ⟨by repeat ((with_reducible exact HK.out))⟩, ⟨bW⟩⟩
        · rw [if_neg c4] at H
          exact absurd H (by simp)
      · rw [if_neg c3] at H
        have c3b0 : decide (x5_1 < (x0_1.length : Int)) = false := decide_eq_false c3
        clear c3
        simp only [Option.some.injEq, Prod.mk.injEq] at H
        obtain ⟨rfl, rfl⟩ := H
        obtain ⟨Ao9, co9, eo9⟩ := Kd.R_slice HO_0.out
        subst eo9
        go_wp2
        go_ret
        exact ⟨rE, by exact HO_0.out, by repeat ((with_reducible exact HB.out)), by repeat ((with_reducible exact HK.out))⟩
end Go.Proofs.YtblejbgkcgajgaaGreat.Q
end

section
namespace Go.Proofs.YtblejbgkcgajgaaGreat.Q
open Go.RowKit Go.Proofs.YtblejbgkcgajgaaGreatW.PrintWords Go.Proofs.YtblejbgkcgajgaaGreatW.PrintLast Go.Proofs.YtblejbgkcgajgaaGreatW.PrintMore
attribute [local go_sem] max2_int min2_int max_two min_two max_three min_three max_four min_four   -- for this text's walks alone
set_option linter.unusedVariables false
set_option linter.unusedSimpArgs false
attribute [local go_sem] bin_leq bin_gtr bin_geq
def laws_markCommitS.f (k : Nat) : List S64 → Int → Option Int
  | [], a1 => some a1
  | x :: xs, a1 => (laws_markIntS.f k x.f0 a1).bind fun t => (laws_markEntryS.f k x.f1 t.1).bind fun u => laws_markCommitS.f k xs u.1
set_option maxHeartbeats 8000000 in
set_option maxRecDepth 100000 in
theorem laws_markCommitS.calls (k : Nat) (P0_ : Nat → Prop) (u9000_ : Value) (l0 : List (S64)) (a1 : Int) (r : Int) (w0 w : World) (hB : Below w0.heap.size w0 w) (ho0 : Kd.S k64 64 w w0.heap.size P0_ u9000_ l0) (h : laws_markCommitS.f k l0 a1 = some r) :
    Calls Tryz.prog 23 #[u9000_, .int .i64 a1] w fun e w' => e = .returned (.int .i64 r) ∧ Below w0.heap.size w0 w' ∧ Kept w w' (fun k_ => P0_ k_) := by
  have HK := Aside0.mk (Kept.refl w (fun k_ => P0_ k_))
  have HS := Aside0.mk ho0
  have HB := Aside0.mk hB
  have HA := Aside0.mk h
  clear hB ho0 h
  obtain ⟨A9, c9, rfl⟩ := Kd.S_slice HS.out
  have HM : l0.length ≤ 9223372036854775807 := (Kd.S_reads' HS.out).2.2.2.1
  go_enter Tryz.func23, Tryz.ntmps23
  go_wp2
  go_loopg [1, 5] l0.length (fun gk s1 s5 w' => ∃ (x1 : Int) (kk : Nat) (ys : List S64), s1 = .int .i64 x1 ∧ s5 = .int .i64 kk ∧ kk ≤ l0.length ∧ l0.length - kk ≤ gk ∧ Aside0 (ys.length = l0.length) ∧ Aside0 (∀ j, kk ≤ j → ys[j]? = l0[j]?) ∧ Aside0 (laws_markCommitS.f k (l0.drop kk) x1 = some r) ∧ Aside0 (Kd.S k64 64 w' w0.heap.size P0_ (.slice A9 l0.length c9) ys) ∧ Aside0 (Kept w w' (fun k_ => P0_ k_)) ∧ Aside0 (Below w0.heap.size w0 w'))
  case atStart => exact ⟨a1, 0, l0, rfl, rfl, Nat.zero_le _, by omega, ⟨rfl⟩, ⟨fun _ _ => rfl⟩, HA, HS, HK, HB⟩
  case round =>
    clear HS HK HB HA
    obtain ⟨x1, kk, ys, rfl, rfl, hkk, hg, HL, HY, HA, HS, HK, HB⟩ := hrel
    by_cases hlt : kk < l0.length
    · have hltz : (kk : Int) < (l0.length : Int) := by omega
      have H := HA.out
      rw [List.drop_eq_getElem_cons hlt] at H
      unfold laws_markCommitS.f at H
      obtain ⟨y, hy⟩ : ∃ y, y = l0[kk] := ⟨_, rfl⟩
      rw [← hy] at H
      obtain ⟨⟨t1, t2⟩, A10, H⟩ := Option.bind_eq_some_iff.mp H
      obtain ⟨⟨u1, u2⟩, A20, H⟩ := Option.bind_eq_some_iff.mp H
      have A1 := Aside0.mk A10
      have A2 := Aside0.mk (show laws_markEntryS.f k y.f1 t1 = some (u1, u2) from A20)
      have HA2 := Aside0.mk (show laws_markCommitS.f k (l0.drop (kk + 1)) u1 = some r from H)
      clear H A10 A20 HA
      obtain ⟨g, cap, e1, _, _, _⟩ := Kd.S_form HS.out (by have := HL.out; omega)
      injection e1 with ea en ec
      subst ea
      subst ec
      clear en
      obtain ⟨oki, ce, hcl, hM, hcc, hoki, hH⟩ := Kd.S_lend HS.out z64 (kk : Int) (by omega) hltz
      have ex : ys.getD (kk : Int).toNat z64 = y := by
        rw [hy, List.getD_eq_getElem?_getD, Int.toNat_natCast, HY.out kk (Nat.le_refl _), List.getElem?_eq_getElem hlt]
        rfl
      rw [ex] at hM
      clear ex hy hcl
      obtain ⟨v0, v1, rfl, g0, g1⟩ := k64_openM hM
      obtain ⟨B0, d0, rfl⟩ := Kd.R_slice g0
      obtain ⟨B1, d1, rfl⟩ := Kd.R_slice g1
      have hx0 : wr.cell? ⟨g, kk * 2, none⟩ = some (.slice B0 y.f0.length d0) := hcc 0 _ rfl
      have hx1 : wr.cell? ⟨g, kk * 2 + 1, none⟩ = some (.slice B1 y.f1.length d1) := hcc 1 _ rfl
      have HX1 := Aside0.mk hx1
      have G0 := Aside0.mk g0
      have G1 := Aside0.mk g1
      have HOK := Aside0.mk hoki
      have HH := Aside0.mk hH
      clear hcc hM g0 g1 hoki hH HS
      go_wp2_with (first | (go_at_call 49; (with_reducible refine (laws_markIntS.calls k (fun k_ => some k_ = (Value.slice B0 y.f0.length d0).ownBlock) _ _ _ _ _ w0 _ ?b1 ?o1 A1.out).mono ?_); (case b1 => exact HB.out); (case o1 => exact Kd.R_tight rfl G0.out); rintro e w1 ⟨rfl, hr1, hb1, hk1⟩; have n1 := Aside0.mk (Kd.R_mono (Kd.R_kept (Kd.R_apart' G1.out (Kd.R_typed G0.out) (by decide)) hk1 (fun _ hk hs => hk.2 hs)) (fun _ hk => hk.1)); have n2 := Aside0.mk (Kd.R_reok (ok := oki) rfl hr1 (fun k_ e_ => G0.out.1 k_ e_)); have n3 := Aside0.mk (Kd.H_step HH.out (fun k_ _ hni hlt => hk1.2 k_ hlt (fun hs => hni (G0.out.1 k_ hs.symm)))); have n4 := Aside0.mk (Kept.then_ HK.out hk1 (fun k_ hs => .inl (HOK.out k_ (G0.out.1 k_ hs.symm)).1)); have n5 := Aside0.mk hb1; have hx2 := cell_kept HX1.out hk1 (fun hs => (HOK.out g (G0.out.1 g hs.symm)).2 rfl); clear HB HK HH G0 G1 HX1; have G1 := n1; have G0 := n2; have HH := n3; have HK := n4; have HB := n5; clear n1 n2 n3 n4 n5 hr1 hb1 hk1) | (go_at_call 24; (with_reducible refine (laws_markEntryS.calls k (fun k_ => some k_ = (Value.slice B1 y.f1.length d1).ownBlock) _ _ _ _ _ w0 _ ?b1 ?o1 A2.out).mono ?_); (case b1 => exact HB.out); (case o1 => exact Kd.R_tight rfl G1.out); rintro e w2 ⟨rfl, hr2, hb2, hk2⟩; have n1 := Aside0.mk (Kd.R_mono (Kd.R_kept (Kd.R_apart' G0.out (Kd.R_typed G1.out) (by decide)) hk2 (fun _ hk hs => hk.2 hs)) (fun _ hk => hk.1)); have n2 := Aside0.mk (Kd.R_reok (ok := oki) rfl hr2 (fun k_ e_ => G1.out.1 k_ e_)); have n3 := Aside0.mk (Kd.H_step HH.out (fun k_ _ hni hlt => hk2.2 k_ hlt (fun hs => hni (G1.out.1 k_ hs.symm)))); have n4 := Aside0.mk (Kept.then_ HK.out hk2 (fun k_ hs => .inl (HOK.out k_ (G1.out.1 k_ hs.symm)).1)); have n5 := Aside0.mk hb2; clear HB HK HH G0 G1; have G0 := n1; have G1 := n2; have HH := n3; have HK := n4; have HB := n5; clear n1 n2 n3 n4 n5 hr2 hb2 hk2))
      go_roundg (l0.length - (kk + 1))
      case measure => omega
      case rel =>
        refine ⟨u1, kk + 1, ys.set (kk : Int).toNat ⟨t2, u2⟩, rfl, by go_num, by omega, Nat.le_refl _, ⟨by rw [List.length_set]; exact HL.out⟩, ⟨fun j hj => ?_⟩, HA2, ⟨Kd.H_back HH.out (k64_mkM _ _ _ ⟨t2, u2⟩ G0.out G1.out) (fun _ hk => hk)⟩, HK, HB⟩
        rw [Int.toNat_natCast, List.getElem?_set_ne (by omega)]
        exact HY.out j (by omega)
    · have hltz : ¬ (kk : Int) < (l0.length : Int) := by omega
      obtain rfl : kk = l0.length := by omega
      have H := HA.out
      rw [List.drop_length] at H
      obtain rfl := Option.some.inj H
      clear H
      go_wp2
      go_ret
      exact ⟨rfl, HB.out, HK.out⟩
end Go.Proofs.YtblejbgkcgajgaaGreat.Q
end

section
namespace Go.Proofs.YtblejbgkcgajgaaGreat.Q
open Go.RowKit Go.Proofs.YtblejbgkcgajgaaGreatW.PrintWords Go.Proofs.YtblejbgkcgajgaaGreatW.PrintLast Go.Proofs.YtblejbgkcgajgaaGreatW.PrintMore
attribute [local go_sem] max2_int min2_int max_two min_two max_three min_three max_four min_four   -- for this text's walks alone
set_option linter.unusedVariables false
set_option linter.unusedSimpArgs false
attribute [local go_sem] bin_leq bin_gtr bin_geq
def laws_markRefS.l0 : Nat → List (S92) → Int → Int → Option (Int × (List (S92)))
 | 0, _, _, _ => none
 | k + 1, x0, x1, x5 => if x5 < (x0.length : Int) then ((laws_markText.f k x1).bind fun t359 => (if 0 ≤ x5 then ((some (x0.set (x5 : Int).toNat (⟨t359, (rd_T92 x0 x5).f1, (rd_T92 x0 x5).f2, (rd_T92 x0 x5).f3⟩ : S92) : List (S92))).bind fun y360 => ((some (y360.set (x5 : Int).toNat (⟨(rd_T92 y360 x5).f0, wrap64 (x1 + 1), (rd_T92 y360 x5).f2, (rd_T92 y360 x5).f3⟩ : S92) : List (S92))).bind fun y361 => ((some (y361.set (x5 : Int).toNat (⟨(rd_T92 y361 x5).f0, (rd_T92 y361 x5).f1, wrap64 ((wrap64 (x1 + 1)) + 1), (rd_T92 y361 x5).f3⟩ : S92) : List (S92))).bind fun y362 => (laws_markRefS.l0 k (y362.set (x5 : Int).toNat (⟨(rd_T92 y362 x5).f0, (rd_T92 y362 x5).f1, (rd_T92 y362 x5).f2, ((Int.tmod (wrap64 ((wrap64 ((wrap64 (x1 + 1)) + 1)) + 1)) 3) == 0)⟩ : S92)) (wrap64 ((wrap64 ((wrap64 ((wrap64 (x1 + 1)) + 1)) + 1)) + 1)) (wrap64 (x5 + 1)))))) else (none))) else (some (x1, x0))
def laws_markRefS.f (k : Nat) (l0 : List (S92)) (a1 : Int) : Option (Int × (List (S92))) := laws_markRefS.l0 k l0 a1 0
set_option maxHeartbeats 8000000 in
set_option maxRecDepth 100000 in
theorem laws_markRefS.calls (k : Nat) (P0_ : Nat → Prop) (u9000_ : Value) (l0 : List (S92)) (a1 : Int) (r1 : Int) (r2 : List (S92)) (w0 w : World) (hB : Below w0.heap.size w0 w) (ho0 : Kd.R k92 92 w w0.heap.size P0_ u9000_ l0) (h : laws_markRefS.f k l0 a1 = some (r1, r2)) :
  Calls Tryz.prog 37 #[u9000_, .int .i64 a1] w fun e w' => e = .returned (.int .i64 r1) ∧ Kd.R k92 92 w' w0.heap.size (fun k_ => (P0_ k_ ∨ w.heap.size ≤ k_)) u9000_ r2 ∧ Below w0.heap.size w0 w' ∧ Kept w w' (fun k_ => P0_ k_) := by
 have HO0 := Aside0.mk (show Kd.R k92 92 w w0.heap.size (fun k_ => (P0_ k_ ∨ w.heap.size ≤ k_)) u9000_ l0 from Kd.R_mono ho0 (fun k_ hk => (.inl hk)))
 have HK := Aside0.mk (Kept.refl w (fun k_ => P0_ k_))
 have HW0 := Aside0.mk hB.size
 have HB := Aside0.mk hB
 clear hB
 have H : (laws_markRefS.l0 k l0 a1 0) = some (r1, r2) := h
 clear h
 have H' := Aside0.mk H
 clear H
 go_enter Tryz.func37, Tryz.ntmps37
 go_wp2
 go_loopg [1, 5] k (fun kq v1 v5 w' => ∃ (x0_1 : List (S92)) (x1_1 : Int) (x5_1 : Int), v1 = .int .i64 x1_1 ∧ v5 = .int .i64 x5_1 ∧ Aside0 (laws_markRefS.l0 kq x0_1 x1_1 x5_1 = some (r1, r2)) ∧ Aside0 (kq ≤ k) ∧ Aside0 (Kd.R k92 92 w' w0.heap.size (fun k_ => (P0_ k_ ∨ w.heap.size ≤ k_)) u9000_ x0_1) ∧ Aside0 (Kept w w' (fun k_ => P0_ k_)) ∧ Aside0 (Below w0.heap.size w0 w'))
 case atStart => exact ⟨(l0), (a1), (0), vE, vE, H', ⟨Nat.le_refl _⟩, ⟨by (with_reducible repeat (first | apply Kd.R_alloc | apply Kd.R_drewN | apply Kd.R_drew)); exact HO0.out⟩, ⟨by repeat (first | (with_reducible first | exact HK.out | apply Kept.alloc | apply Kept.drewN | apply Kept.drew) | exact HK.out)⟩, ⟨bW⟩⟩
 case round =>
  clear H'
  try clear p2
  obtain ⟨x0_1, x1_1, x5_1, rfl, rfl, HA, HK1, HO_0, HK, HB⟩ := hrel
  cases gk with
  | zero => exact absurd HA.out (by simp [laws_markRefS.l0])
  | succ k1 =>
   have H := HA.out
   clear HA
   simp only [laws_markRefS.l0] at H
   by_cases c3 : x5_1 < (x0_1.length : Int)
   ·rw [if_pos c3] at H
    have c3b0 : decide (x5_1 < (x0_1.length : Int)) = true := decide_eq_true c3
    clear c3
    replace H := Option.bind_eq_some_iff.mp H
    obtain ⟨t359, A40, H⟩ := H
    replace H : (if 0 ≤ x5_1 then ((some (x0_1.set (x5_1 : Int).toNat (⟨t359, (rd_T92 x0_1 x5_1).f1, (rd_T92 x0_1 x5_1).f2, (rd_T92 x0_1 x5_1).f3⟩ : S92) : List (S92))).bind fun y360 => ((some (y360.set (x5_1 : Int).toNat (⟨(rd_T92 y360 x5_1).f0, wrap64 (x1_1 + 1), (rd_T92 y360 x5_1).f2, (rd_T92 y360 x5_1).f3⟩ : S92) : List (S92))).bind fun y361 => ((some (y361.set (x5_1 : Int).toNat (⟨(rd_T92 y361 x5_1).f0, (rd_T92 y361 x5_1).f1, wrap64 ((wrap64 (x1_1 + 1)) + 1), (rd_T92 y361 x5_1).f3⟩ : S92) : List (S92))).bind fun y362 => (laws_markRefS.l0 k1 (y362.set (x5_1 : Int).toNat (⟨(rd_T92 y362 x5_1).f0, (rd_T92 y362 x5_1).f1, (rd_T92 y362 x5_1).f2, ((Int.tmod (wrap64 ((wrap64 ((wrap64 (x1_1 + 1)) + 1)) + 1)) 3) == 0)⟩ : S92)) (wrap64 ((wrap64 ((wrap64 ((wrap64 (x1_1 + 1)) + 1)) + 1)) + 1)) (wrap64 (x5_1 + 1)))))) else (none)) = some (r1, r2) := H
    have A4 := Aside0.mk A40
    clear A40
    by_cases c5 : 0 ≤ x5_1
    ·rw [if_pos c5] at H
     have c5b0 : decide (0 ≤ x5_1) = true := decide_eq_true c5
     clear c5
     obtain ⟨y360, hy360⟩ : ∃ y_ : List (S92), y_ = (x0_1.set (x5_1 : Int).toNat (⟨t359, (rd_T92 x0_1 x5_1).f1, (rd_T92 x0_1 x5_1).f2, (rd_T92 x0_1 x5_1).f3⟩ : S92)) := ⟨_, rfl⟩
     replace H : ((some (y360.set (x5_1 : Int).toNat (⟨(rd_T92 y360 x5_1).f0, wrap64 (x1_1 + 1), (rd_T92 y360 x5_1).f2, (rd_T92 y360 x5_1).f3⟩ : S92) : List (S92))).bind fun y361 => ((some (y361.set (x5_1 : Int).toNat (⟨(rd_T92 y361 x5_1).f0, (rd_T92 y361 x5_1).f1, wrap64 ((wrap64 (x1_1 + 1)) + 1), (rd_T92 y361 x5_1).f3⟩ : S92) : List (S92))).bind fun y362 => (laws_markRefS.l0 k1 (y362.set (x5_1 : Int).toNat (⟨(rd_T92 y362 x5_1).f0, (rd_T92 y362 x5_1).f1, (rd_T92 y362 x5_1).f2, ((Int.tmod (wrap64 ((wrap64 ((wrap64 (x1_1 + 1)) + 1)) + 1)) 3) == 0)⟩ : S92)) (wrap64 ((wrap64 ((wrap64 ((wrap64 (x1_1 + 1)) + 1)) + 1)) + 1)) (wrap64 (x5_1 + 1))))) = some (r1, r2) := by first | (rw [hy360]; with_reducible exact H) | (have H2_ := (Option.bind_some _ _).symm.trans H; rw [hy360]; with_reducible exact H2_) | (have H2_ := (Option.bind_some _ _).symm.trans H; with_reducible exact H2_) | with_reducible exact H | (rw [hy360]; exact H) | exact H
     have Ny360 := Aside0.mk hy360
     clear hy360
     obtain ⟨y361, hy361⟩ : ∃ y_ : List (S92), y_ = (y360.set (x5_1 : Int).toNat (⟨(rd_T92 y360 x5_1).f0, wrap64 (x1_1 + 1), (rd_T92 y360 x5_1).f2, (rd_T92 y360 x5_1).f3⟩ : S92)) := ⟨_, rfl⟩
     replace H : ((some (y361.set (x5_1 : Int).toNat (⟨(rd_T92 y361 x5_1).f0, (rd_T92 y361 x5_1).f1, wrap64 ((wrap64 (x1_1 + 1)) + 1), (rd_T92 y361 x5_1).f3⟩ : S92) : List (S92))).bind fun y362 => (laws_markRefS.l0 k1 (y362.set (x5_1 : Int).toNat (⟨(rd_T92 y362 x5_1).f0, (rd_T92 y362 x5_1).f1, (rd_T92 y362 x5_1).f2, ((Int.tmod (wrap64 ((wrap64 ((wrap64 (x1_1 + 1)) + 1)) + 1)) 3) == 0)⟩ : S92)) (wrap64 ((wrap64 ((wrap64 ((wrap64 (x1_1 + 1)) + 1)) + 1)) + 1)) (wrap64 (x5_1 + 1)))) = some (r1, r2) := by first | (rw [hy361]; with_reducible exact H) | (have H2_ := (Option.bind_some _ _).symm.trans H; rw [hy361]; with_reducible exact H2_) | (have H2_ := (Option.bind_some _ _).symm.trans H; with_reducible exact H2_) | with_reducible exact H | (rw [hy361]; exact H) | exact H
     have Ny361 := Aside0.mk hy361
     clear hy361
     obtain ⟨y362, hy362⟩ : ∃ y_ : List (S92), y_ = (y361.set (x5_1 : Int).toNat (⟨(rd_T92 y361 x5_1).f0, (rd_T92 y361 x5_1).f1, wrap64 ((wrap64 (x1_1 + 1)) + 1), (rd_T92 y361 x5_1).f3⟩ : S92)) := ⟨_, rfl⟩
     replace H : (laws_markRefS.l0 k1 (y362.set (x5_1 : Int).toNat (⟨(rd_T92 y362 x5_1).f0, (rd_T92 y362 x5_1).f1, (rd_T92 y362 x5_1).f2, ((Int.tmod (wrap64 ((wrap64 ((wrap64 (x1_1 + 1)) + 1)) + 1)) 3) == 0)⟩ : S92)) (wrap64 ((wrap64 ((wrap64 ((wrap64 (x1_1 + 1)) + 1)) + 1)) + 1)) (wrap64 (x5_1 + 1))) = some (r1, r2) := by first | (rw [hy362]; with_reducible exact H) | (have H2_ := (Option.bind_some _ _).symm.trans H; rw [hy362]; with_reducible exact H2_) | (have H2_ := (Option.bind_some _ _).symm.trans H; with_reducible exact H2_) | with_reducible exact H | (rw [hy362]; exact H) | exact H
     have Ny362 := Aside0.mk hy362
     clear hy362
     obtain ⟨y363, hy363⟩ : ∃ y_ : List (S92), y_ = (y362.set (x5_1 : Int).toNat (⟨(rd_T92 y362 x5_1).f0, (rd_T92 y362 x5_1).f1, (rd_T92 y362 x5_1).f2, ((Int.tmod (wrap64 ((wrap64 ((wrap64 (x1_1 + 1)) + 1)) + 1)) 3) == 0)⟩ : S92)) := ⟨_, rfl⟩
     replace H : (laws_markRefS.l0 k1 y363 (wrap64 ((wrap64 ((wrap64 ((wrap64 (x1_1 + 1)) + 1)) + 1)) + 1)) (wrap64 (x5_1 + 1))) = some (r1, r2) := by first | (rw [hy363]; with_reducible exact H) | (have H2_ := (Option.bind_some _ _).symm.trans H; rw [hy363]; with_reducible exact H2_) | (have H2_ := (Option.bind_some _ _).symm.trans H; with_reducible exact H2_) | with_reducible exact H | (rw [hy363]; exact H) | exact H
     have Ny363 := Aside0.mk hy363
     clear hy363
     have H' := Aside0.mk H
     clear H
     obtain ⟨Ao10, co10, eo10⟩ := Kd.R_slice HO_0.out
     subst eo10
     go_wp2_with (first | ((with_reducible refine gate_callee (f := 38) rfl ?_); refine goesL_ (some 15) rfl rfl Tryz.func38 (by kernel_rfl) rfl #[.int .i64 x1_1] rfl gA ?_; (with_reducible refine (laws_markText.calls k1 x1_1 t359 _ A4.out).mono ?_); rintro e w11 ⟨rfl, hb⟩; refine ⟨_, rfl, ?_⟩; have n0_ := Aside0.mk (Kd.R_below (pR HO_0) hb); have n1_ := Aside0.mk (Kept.below (S := (fun k_ => P0_ k_)) (by repeat (first | (with_reducible first | exact HK.out | apply Kept.alloc | apply Kept.drewN | apply Kept.drew) | exact HK.out)) hb); have n2_ := Aside0.mk (below_step (w := w0) bW hb); clear HO_0; clear HK; clear HB; have HO_0 := n0_; have HK := n1_; have HB := n2_; clear n0_ n1_ n2_; (try clear hb); (try clear hb2); (try clear hk); (try clear hi); have p6 : 0 ≤ (x5_1 : Int) := odt; have q6 : (x5_1 : Int) < ((x0_1.length : Int) : Int) := odt; obtain ⟨go6, co6, eo6, gb6, gl6, cl6, HG6⟩ := Kd.R_form HO_0.out (by omega); (first | cases eo6 | (injection eo6 with ea_ en_ ec_; (first | subst ea_ | (injection ea_ with ea_; subst ea_)); subst ec_; clear en_)); have GB6 := Aside0.mk gb6; have GG6 := Aside0.mk HG6; clear gb6 gl6 HG6; have HMgo6 := Aside0.mk (show (P0_ go6 ∨ w.heap.size ≤ go6) from (HO_0.out.1 _ rfl)); obtain ⟨ce6, hcl6, hM6, hcc6, hfr6⟩ := Kd.R_elem HO_0.out z92 (x5_1 : Int) p6 q6; obtain rfl := k92_openM hM6; have hx6_0 : w11.cell? ⟨go6, (x5_1 : Int).toNat * 4, none⟩ = some (.string ((rd_T92 x0_1 x5_1).f0)) := hcc6 0 _ rfl; have hx6_1 : w11.cell? ⟨go6, (x5_1 : Int).toNat * 4 + 1, none⟩ = some (.int .i64 ((rd_T92 x0_1 x5_1).f1)) := hcc6 1 _ rfl; have hx6_2 : w11.cell? ⟨go6, (x5_1 : Int).toNat * 4 + 2, none⟩ = some (.int .i64 ((rd_T92 x0_1 x5_1).f2)) := hcc6 2 _ rfl; have hx6_3 : w11.cell? ⟨go6, (x5_1 : Int).toNat * 4 + 3, none⟩ = some (.bool ((rd_T92 x0_1 x5_1).f3)) := hcc6 3 _ rfl; have hf6_0 : w11.frozen? ⟨go6, (x5_1 : Int).toNat * 4, none⟩ = false := hfr6 0; have hf6_1 : w11.frozen? ⟨go6, (x5_1 : Int).toNat * 4 + 1, none⟩ = false := hfr6 1; have hf6_2 : w11.frozen? ⟨go6, (x5_1 : Int).toNat * 4 + 2, none⟩ = false := hfr6 2; have hf6_3 : w11.frozen? ⟨go6, (x5_1 : Int).toNat * 4 + 3, none⟩ = false := hfr6 3; clear hcl6 hcc6 hfr6 hM6; replace p6 := eq_true p6; replace q6 := eq_true q6; have HX12 := Aside0.mk (show Kd.R k92 92 w11 w0.heap.size (fun k_ => (P0_ k_ ∨ w.heap.size ≤ k_)) (.slice (some ⟨go6, 0, none⟩) x0_1.length co10) x0_1 from (pR HO_0)); obtain ⟨ce12, hcl12, hM12, hcc12, hfr12⟩ := Kd.R_elem HX12.out z92 (x5_1 : Int) (odt) (by have h_ : (x5_1 : Int) < ((x0_1.length : Int) : Int) := odt; first | exact h_ | (have e_ := (Kd.R_reads' HO_0.out).1; omega) | simpa using h_); obtain rfl := k92_openM hM12; have HP12 := Kd.R_seg HX12.out (x5_1 : Int) (odt) (by have h_ : (x5_1 : Int) < ((x0_1.length : Int) : Int) := odt; first | exact h_ | (have e_ := (Kd.R_reads' HO_0.out).1; omega) | simpa using h_) (seg := [.string t359]) (j := 0) hcl12 hcc12 (show 1 ≤ 4 from by decide) (x' := (⟨t359, (rd_T92 x0_1 x5_1).f1, (rd_T92 x0_1 x5_1).f2, (rd_T92 x0_1 x5_1).f3⟩ : S92)) (k92_mkM _ _ _ (⟨t359, (rd_T92 x0_1 x5_1).f1, (rd_T92 x0_1 x5_1).f2, (rd_T92 x0_1 x5_1).f3⟩ : S92) ) (fun _ hk => hk); have hx12_0 := hcc12 0 _ rfl; (try simp only [show (k92).sz = 4 from rfl, Nat.mul_one, Nat.add_zero] at hx12_0); have hf12_0 := hfr12 0; (try simp only [show (k92).sz = 4 from rfl, Nat.mul_one, Nat.add_zero] at hf12_0); clear hcl12 hcc12 hfr12 hM12) | ((with_reducible refine gate_store (t := 9) (p := 17) rfl ?_); refine store_event (t := 9) (p := 17) (v := ?vo_w13) (w1 := (w11.setCell ⟨go6, (x5_1 : Int).toNat * 4, none⟩ (.string t359))) ?hg ?ho ?hn ?hr ?_; (case ho => rfl); (case hg => rfl); (case hn => rfl); (case hr => first | (go_simp; done) | (go_simp; rfl)); intro w13 hw; have hg : w11.grownBy w13 (some go6) := (by rw [hw]; exact HP12.2); have hp_ : Kd.R k92 92 w13 w0.heap.size (fun k_ => (P0_ k_ ∨ w.heap.size ≤ k_)) (.slice (some ⟨go6, 0, none⟩) x0_1.length co10) y360 := (by rw [hw, Ny360.out]; exact HP12.1); clear HP12; have n0_ := Aside0.mk (hp_); have n1_ := Aside0.mk ((by rw [hw]; exact below_set (HB.out) GB6.out : Below w0.heap.size w0 w13)); have n2_ := Aside0.mk (Kept.of_grown (S := (fun k_ => P0_ k_)) hg (by repeat (first | (with_reducible first | exact HK.out | apply Kept.alloc | apply Kept.drewN | apply Kept.drew) | exact HK.out)) (fun k_ e_ => (HO_0.out.1 k_ e_))); clear HO_0; clear HB; clear HK; have HO_0 := n0_; have HB := n1_; have HK := n2_; clear n0_ n1_ n2_; clear hg hw hp_; have p7 : 0 ≤ (x5_1 : Int) := odt; have q7 : (x5_1 : Int) < ((x0_1.length : Int) : Int) := odt; obtain ⟨ce7, hcl7, hM7, hcc7, hfr7⟩ := Kd.R_elem HO_0.out z92 (x5_1 : Int) p7 q7; obtain rfl := k92_openM hM7; have hx7_0 : w13.cell? ⟨go6, (x5_1 : Int).toNat * 4, none⟩ = some (.string ((rd_T92 y360 x5_1).f0)) := hcc7 0 _ rfl; have hx7_1 : w13.cell? ⟨go6, (x5_1 : Int).toNat * 4 + 1, none⟩ = some (.int .i64 ((rd_T92 y360 x5_1).f1)) := hcc7 1 _ rfl; have hx7_2 : w13.cell? ⟨go6, (x5_1 : Int).toNat * 4 + 2, none⟩ = some (.int .i64 ((rd_T92 y360 x5_1).f2)) := hcc7 2 _ rfl; have hx7_3 : w13.cell? ⟨go6, (x5_1 : Int).toNat * 4 + 3, none⟩ = some (.bool ((rd_T92 y360 x5_1).f3)) := hcc7 3 _ rfl; have hf7_0 : w13.frozen? ⟨go6, (x5_1 : Int).toNat * 4, none⟩ = false := hfr7 0; have hf7_1 : w13.frozen? ⟨go6, (x5_1 : Int).toNat * 4 + 1, none⟩ = false := hfr7 1; have hf7_2 : w13.frozen? ⟨go6, (x5_1 : Int).toNat * 4 + 2, none⟩ = false := hfr7 2; have hf7_3 : w13.frozen? ⟨go6, (x5_1 : Int).toNat * 4 + 3, none⟩ = false := hfr7 3; clear hcl7 hcc7 hfr7 hM7; replace p7 := eq_true p7; replace q7 := eq_true q7; have HX14 := Aside0.mk (show Kd.R k92 92 w13 w0.heap.size (fun k_ => (P0_ k_ ∨ w.heap.size ≤ k_)) (.slice (some ⟨go6, 0, none⟩) x0_1.length co10) y360 from (pR HO_0)); obtain ⟨ce14, hcl14, hM14, hcc14, hfr14⟩ := Kd.R_elem HX14.out z92 (x5_1 : Int) (odt) (by have h_ : (x5_1 : Int) < ((x0_1.length : Int) : Int) := odt; first | exact h_ | (have e_ := (Kd.R_reads' HO_0.out).1; omega) | simpa using h_); obtain rfl := k92_openM hM14; have HP14 := Kd.R_seg HX14.out (x5_1 : Int) (odt) (by have h_ : (x5_1 : Int) < ((x0_1.length : Int) : Int) := odt; first | exact h_ | (have e_ := (Kd.R_reads' HO_0.out).1; omega) | simpa using h_) (seg := [.int .i64 (wrap64 (x1_1 + 1))]) (j := 1) hcl14 hcc14 (show 2 ≤ 4 from by decide) (x' := (⟨(rd_T92 y360 x5_1).f0, wrap64 (x1_1 + 1), (rd_T92 y360 x5_1).f2, (rd_T92 y360 x5_1).f3⟩ : S92)) (k92_mkM _ _ _ (⟨(rd_T92 y360 x5_1).f0, wrap64 (x1_1 + 1), (rd_T92 y360 x5_1).f2, (rd_T92 y360 x5_1).f3⟩ : S92) ) (fun _ hk => hk); have hx14_1 := hcc14 1 _ rfl; (try simp only [show (k92).sz = 4 from rfl, Nat.mul_one, Nat.add_zero] at hx14_1); have hf14_1 := hfr14 1; (try simp only [show (k92).sz = 4 from rfl, Nat.mul_one, Nat.add_zero] at hf14_1); clear hcl14 hcc14 hfr14 hM14) | ((with_reducible refine gate_store (t := 3) (p := 24) rfl ?_); refine store_event (t := 3) (p := 24) (v := ?vo_w15) (w1 := (w13.setCell ⟨go6, (x5_1 : Int).toNat * 4 + 1, none⟩ (.int .i64 (wrap64 (x1_1 + 1))))) ?hg ?ho ?hn ?hr ?_; (case ho => rfl); (case hg => rfl); (case hn => rfl); (case hr => first | (go_simp; done) | (go_simp; rfl)); intro w15 hw; have hg : w13.grownBy w15 (some go6) := (by rw [hw]; exact HP14.2); have hp_ : Kd.R k92 92 w15 w0.heap.size (fun k_ => (P0_ k_ ∨ w.heap.size ≤ k_)) (.slice (some ⟨go6, 0, none⟩) x0_1.length co10) y361 := (by rw [hw, Ny361.out]; exact HP14.1); clear HP14; have n0_ := Aside0.mk (hp_); have n1_ := Aside0.mk ((by rw [hw]; exact below_set (HB.out) GB6.out : Below w0.heap.size w0 w15)); have n2_ := Aside0.mk (Kept.of_grown (S := (fun k_ => P0_ k_)) hg (by repeat (first | (with_reducible first | exact HK.out | apply Kept.alloc | apply Kept.drewN | apply Kept.drew) | exact HK.out)) (fun k_ e_ => (HO_0.out.1 k_ e_))); clear HO_0; clear HB; clear HK; have HO_0 := n0_; have HB := n1_; have HK := n2_; clear n0_ n1_ n2_; clear hg hw hp_; have p8 : 0 ≤ (x5_1 : Int) := odt; have q8 : (x5_1 : Int) < ((x0_1.length : Int) : Int) := odt; obtain ⟨ce8, hcl8, hM8, hcc8, hfr8⟩ := Kd.R_elem HO_0.out z92 (x5_1 : Int) p8 q8; obtain rfl := k92_openM hM8; have hx8_0 : w15.cell? ⟨go6, (x5_1 : Int).toNat * 4, none⟩ = some (.string ((rd_T92 y361 x5_1).f0)) := hcc8 0 _ rfl; have hx8_1 : w15.cell? ⟨go6, (x5_1 : Int).toNat * 4 + 1, none⟩ = some (.int .i64 ((rd_T92 y361 x5_1).f1)) := hcc8 1 _ rfl; have hx8_2 : w15.cell? ⟨go6, (x5_1 : Int).toNat * 4 + 2, none⟩ = some (.int .i64 ((rd_T92 y361 x5_1).f2)) := hcc8 2 _ rfl; have hx8_3 : w15.cell? ⟨go6, (x5_1 : Int).toNat * 4 + 3, none⟩ = some (.bool ((rd_T92 y361 x5_1).f3)) := hcc8 3 _ rfl; have hf8_0 : w15.frozen? ⟨go6, (x5_1 : Int).toNat * 4, none⟩ = false := hfr8 0; have hf8_1 : w15.frozen? ⟨go6, (x5_1 : Int).toNat * 4 + 1, none⟩ = false := hfr8 1; have hf8_2 : w15.frozen? ⟨go6, (x5_1 : Int).toNat * 4 + 2, none⟩ = false := hfr8 2; have hf8_3 : w15.frozen? ⟨go6, (x5_1 : Int).toNat * 4 + 3, none⟩ = false := hfr8 3; clear hcl8 hcc8 hfr8 hM8; replace p8 := eq_true p8; replace q8 := eq_true q8; have HX16 := Aside0.mk (show Kd.R k92 92 w15 w0.heap.size (fun k_ => (P0_ k_ ∨ w.heap.size ≤ k_)) (.slice (some ⟨go6, 0, none⟩) x0_1.length co10) y361 from (pR HO_0)); obtain ⟨ce16, hcl16, hM16, hcc16, hfr16⟩ := Kd.R_elem HX16.out z92 (x5_1 : Int) (odt) (by have h_ : (x5_1 : Int) < ((x0_1.length : Int) : Int) := odt; first | exact h_ | (have e_ := (Kd.R_reads' HO_0.out).1; omega) | simpa using h_); obtain rfl := k92_openM hM16; have HP16 := Kd.R_seg HX16.out (x5_1 : Int) (odt) (by have h_ : (x5_1 : Int) < ((x0_1.length : Int) : Int) := odt; first | exact h_ | (have e_ := (Kd.R_reads' HO_0.out).1; omega) | simpa using h_) (seg := [.int .i64 (wrap64 ((wrap64 (x1_1 + 1)) + 1))]) (j := 2) hcl16 hcc16 (show 3 ≤ 4 from by decide) (x' := (⟨(rd_T92 y361 x5_1).f0, (rd_T92 y361 x5_1).f1, wrap64 ((wrap64 (x1_1 + 1)) + 1), (rd_T92 y361 x5_1).f3⟩ : S92)) (k92_mkM _ _ _ (⟨(rd_T92 y361 x5_1).f0, (rd_T92 y361 x5_1).f1, wrap64 ((wrap64 (x1_1 + 1)) + 1), (rd_T92 y361 x5_1).f3⟩ : S92) ) (fun _ hk => hk); have hx16_2 := hcc16 2 _ rfl; (try simp only [show (k92).sz = 4 from rfl, Nat.mul_one, Nat.add_zero] at hx16_2); have hf16_2 := hfr16 2; (try simp only [show (k92).sz = 4 from rfl, Nat.mul_one, Nat.add_zero] at hf16_2); clear hcl16 hcc16 hfr16 hM16) | ((with_reducible refine gate_store (t := 3) (p := 31) rfl ?_); refine store_event (t := 3) (p := 31) (v := ?vo_w17) (w1 := (w15.setCell ⟨go6, (x5_1 : Int).toNat * 4 + 2, none⟩ (.int .i64 (wrap64 ((wrap64 (x1_1 + 1)) + 1))))) ?hg ?ho ?hn ?hr ?_; (case ho => rfl); (case hg => rfl); (case hn => rfl); (case hr => first | (go_simp; done) | (go_simp; rfl)); intro w17 hw; have hg : w15.grownBy w17 (some go6) := (by rw [hw]; exact HP16.2); have hp_ : Kd.R k92 92 w17 w0.heap.size (fun k_ => (P0_ k_ ∨ w.heap.size ≤ k_)) (.slice (some ⟨go6, 0, none⟩) x0_1.length co10) y362 := (by rw [hw, Ny362.out]; exact HP16.1); clear HP16; have n0_ := Aside0.mk (hp_); have n1_ := Aside0.mk ((by rw [hw]; exact below_set (HB.out) GB6.out : Below w0.heap.size w0 w17)); have n2_ := Aside0.mk (Kept.of_grown (S := (fun k_ => P0_ k_)) hg (by repeat (first | (with_reducible first | exact HK.out | apply Kept.alloc | apply Kept.drewN | apply Kept.drew) | exact HK.out)) (fun k_ e_ => (HO_0.out.1 k_ e_))); clear HO_0; clear HB; clear HK; have HO_0 := n0_; have HB := n1_; have HK := n2_; clear n0_ n1_ n2_; clear hg hw hp_; have p9 : 0 ≤ (x5_1 : Int) := odt; have q9 : (x5_1 : Int) < ((x0_1.length : Int) : Int) := odt; obtain ⟨ce9, hcl9, hM9, hcc9, hfr9⟩ := Kd.R_elem HO_0.out z92 (x5_1 : Int) p9 q9; obtain rfl := k92_openM hM9; have hx9_0 : w17.cell? ⟨go6, (x5_1 : Int).toNat * 4, none⟩ = some (.string ((rd_T92 y362 x5_1).f0)) := hcc9 0 _ rfl; have hx9_1 : w17.cell? ⟨go6, (x5_1 : Int).toNat * 4 + 1, none⟩ = some (.int .i64 ((rd_T92 y362 x5_1).f1)) := hcc9 1 _ rfl; have hx9_2 : w17.cell? ⟨go6, (x5_1 : Int).toNat * 4 + 2, none⟩ = some (.int .i64 ((rd_T92 y362 x5_1).f2)) := hcc9 2 _ rfl; have hx9_3 : w17.cell? ⟨go6, (x5_1 : Int).toNat * 4 + 3, none⟩ = some (.bool ((rd_T92 y362 x5_1).f3)) := hcc9 3 _ rfl; have hf9_0 : w17.frozen? ⟨go6, (x5_1 : Int).toNat * 4, none⟩ = false := hfr9 0; have hf9_1 : w17.frozen? ⟨go6, (x5_1 : Int).toNat * 4 + 1, none⟩ = false := hfr9 1; have hf9_2 : w17.frozen? ⟨go6, (x5_1 : Int).toNat * 4 + 2, none⟩ = false := hfr9 2; have hf9_3 : w17.frozen? ⟨go6, (x5_1 : Int).toNat * 4 + 3, none⟩ = false := hfr9 3; clear hcl9 hcc9 hfr9 hM9; replace p9 := eq_true p9; replace q9 := eq_true q9; have HX18 := Aside0.mk (show Kd.R k92 92 w17 w0.heap.size (fun k_ => (P0_ k_ ∨ w.heap.size ≤ k_)) (.slice (some ⟨go6, 0, none⟩) x0_1.length co10) y362 from (pR HO_0)); obtain ⟨ce18, hcl18, hM18, hcc18, hfr18⟩ := Kd.R_elem HX18.out z92 (x5_1 : Int) (odt) (by have h_ : (x5_1 : Int) < ((x0_1.length : Int) : Int) := odt; first | exact h_ | (have e_ := (Kd.R_reads' HO_0.out).1; omega) | simpa using h_); obtain rfl := k92_openM hM18; have HP18 := Kd.R_seg HX18.out (x5_1 : Int) (odt) (by have h_ : (x5_1 : Int) < ((x0_1.length : Int) : Int) := odt; first | exact h_ | (have e_ := (Kd.R_reads' HO_0.out).1; omega) | simpa using h_) (seg := [.bool ((Int.tmod (wrap64 ((wrap64 ((wrap64 (x1_1 + 1)) + 1)) + 1)) 3) == 0)]) (j := 3) hcl18 hcc18 (show 4 ≤ 4 from by decide) (x' := (⟨(rd_T92 y362 x5_1).f0, (rd_T92 y362 x5_1).f1, (rd_T92 y362 x5_1).f2, ((Int.tmod (wrap64 ((wrap64 ((wrap64 (x1_1 + 1)) + 1)) + 1)) 3) == 0)⟩ : S92)) (k92_mkM _ _ _ (⟨(rd_T92 y362 x5_1).f0, (rd_T92 y362 x5_1).f1, (rd_T92 y362 x5_1).f2, ((Int.tmod (wrap64 ((wrap64 ((wrap64 (x1_1 + 1)) + 1)) + 1)) 3) == 0)⟩ : S92) ) (fun _ hk => hk); have hx18_3 := hcc18 3 _ rfl; (try simp only [show (k92).sz = 4 from rfl, Nat.mul_one, Nat.add_zero] at hx18_3); have hf18_3 := hfr18 3; (try simp only [show (k92).sz = 4 from rfl, Nat.mul_one, Nat.add_zero] at hf18_3); clear hcl18 hcc18 hfr18 hM18) | ((with_reducible refine gate_store (t := 4) (p := 40) rfl ?_); refine store_event (t := 4) (p := 40) (v := ?vo_w19) (w1 := (w17.setCell ⟨go6, (x5_1 : Int).toNat * 4 + 3, none⟩ (.bool ((Int.tmod (wrap64 ((wrap64 ((wrap64 (x1_1 + 1)) + 1)) + 1)) 3) == 0)))) ?hg ?ho ?hn ?hr ?_; (case ho => rfl); (case hg => rfl); (case hn => rfl); (case hr => first | (go_simp; done) | (go_simp; rfl)); intro w19 hw; have hg : w17.grownBy w19 (some go6) := (by rw [hw]; exact HP18.2); have hp_ : Kd.R k92 92 w19 w0.heap.size (fun k_ => (P0_ k_ ∨ w.heap.size ≤ k_)) (.slice (some ⟨go6, 0, none⟩) x0_1.length co10) y363 := (by rw [hw, Ny363.out]; exact HP18.1); clear HP18; have n0_ := Aside0.mk (hp_); have n1_ := Aside0.mk ((by rw [hw]; exact below_set (HB.out) GB6.out : Below w0.heap.size w0 w19)); have n2_ := Aside0.mk (Kept.of_grown (S := (fun k_ => P0_ k_)) hg (by repeat (first | (with_reducible first | exact HK.out | apply Kept.alloc | apply Kept.drewN | apply Kept.drew) | exact HK.out)) (fun k_ e_ => (HO_0.out.1 k_ e_))); clear HO_0; clear HB; clear HK; have HO_0 := n0_; have HB := n1_; have HK := n2_; clear n0_ n1_ n2_; clear hg hw hp_))
     go_roundg k1
     case measure => have := HK1.out; omega
     case rel => exact ⟨(y363), (wrap64 ((wrap64 ((wrap64 ((wrap64 (x1_1 + 1)) + 1)) + 1)) + 1)), (wrap64 (x5_1 + 1)), vE, vE, H', ⟨by have := HK1.out; omega⟩, ⟨by (with_reducible repeat (first | apply Kd.R_alloc | apply Kd.R_drewN | apply Kd.R_drew)); exact HO_0.out⟩, ⟨by repeat (first | (with_reducible first | exact HK.out | apply Kept.alloc | apply Kept.drewN | apply Kept.drew) | exact HK.out)⟩, ⟨bW⟩⟩
    ·rw [if_neg c5] at H
     exact absurd H (by simp)
   ·rw [if_neg c3] at H
    have c3b0 : decide (x5_1 < (x0_1.length : Int)) = false := decide_eq_false c3
    clear c3
    simp only [Option.some.injEq, Prod.mk.injEq] at H
    obtain ⟨rfl, rfl⟩ := H
    obtain ⟨Ao20, co20, eo20⟩ := Kd.R_slice HO_0.out
    subst eo20
    go_wp2
    go_ret
    exact ⟨rE, by (with_reducible repeat (first | apply Kd.R_alloc | apply Kd.R_drewN | apply Kd.R_drew)); exact HO_0.out, by repeat (first | (with_reducible first | exact HB.out | apply below_alloc | apply pw_below_drewN | apply below_drew1) | exact HB.out), by repeat (first | (with_reducible first | exact HK.out | apply Kept.alloc | apply Kept.drewN | apply Kept.drew) | exact HK.out)⟩
end Go.Proofs.YtblejbgkcgajgaaGreat.Q
end

section
namespace Go.Proofs.YtblejbgkcgajgaaGreat.Q
open Go.RowKit Go.Proofs.YtblejbgkcgajgaaGreatW.PrintWords Go.Proofs.YtblejbgkcgajgaaGreatW.PrintLast Go.Proofs.YtblejbgkcgajgaaGreatW.PrintMore
attribute [local go_sem] max2_int min2_int max_two min_two max_three min_three max_four min_four   -- for this text's walks alone
set_option linter.unusedVariables false
set_option linter.unusedSimpArgs false
attribute [local go_sem] bin_leq bin_gtr bin_geq
def laws_markBase.f (k : Nat) (l0_0 : List S64) (l0_1 : List S92) (a1 : Int) : Option Int := (laws_markCommitS.f k l0_0 a1).bind fun t => (laws_markRefS.f k l0_1 t).bind fun u => some u.1
set_option maxHeartbeats 8000000 in
set_option maxRecDepth 100000 in
theorem laws_markBase.calls (k : Nat) (P0_0_ : Nat → Prop) (u9000_ : Value) (l0_0 : List (S64)) (P0_1_ : Nat → Prop) (u9001_ : Value) (l0_1 : List (S92)) (a1 : Int) (r : Int) (w0 w : World) (hB : Below w0.heap.size w0 w) (ho0_0 : Kd.S k64 64 w w0.heap.size P0_0_ u9000_ l0_0) (ho0_1 : Kd.R k92 92 w w0.heap.size P0_1_ u9001_ l0_1) (h : laws_markBase.f k l0_0 l0_1 a1 = some r) :
    Calls Tryz.prog 13 #[.agg #[u9000_, u9001_], .int .i64 a1] w fun e w' => e = .returned (.int .i64 r) ∧ Below w0.heap.size w0 w' ∧ Kept w w' (fun k_ => P0_0_ k_ ∨ P0_1_ k_) := by
  unfold laws_markBase.f at h
  obtain ⟨t, A10, h⟩ := Option.bind_eq_some_iff.mp h
  obtain ⟨⟨u1, u2⟩, A20, h⟩ := Option.bind_eq_some_iff.mp h
  obtain rfl := Option.some.inj h
  obtain ⟨A0, c0, rfl⟩ := Kd.S_slice ho0_0
  obtain ⟨A1, c1, rfl⟩ := Kd.R_slice ho0_1
  have A1_ := Aside0.mk A10
  have A2_ := Aside0.mk (show laws_markRefS.f k l0_1 t = some (u1, u2) from A20)
  have hS := Kd.S_bound ho0_0
  have hR := Kd.R_bound ho0_1
  have hbx : Below w.heap.size w (w.alloc (.cells #[.slice A0 l0_0.length c0, .slice A1 l0_1.length c1] 36 (0, 0))) := below_alloc (Below.refl _ _) _
  have HS := Aside0.mk (Kd.S_alloc hS (.cells #[.slice A0 l0_0.length c0, .slice A1 l0_1.length c1] 36 (0, 0)))
  have HR := Aside0.mk (Kd.R_alloc hR (.cells #[.slice A0 l0_0.length c0, .slice A1 l0_1.length c1] 36 (0, 0)))
  have HB := Aside0.mk (below_alloc hB (.cells #[.slice A0 l0_0.length c0, .slice A1 l0_1.length c1] 36 (0, 0)))
  have HX := Aside0.mk (heap_alloc_new w (.cells #[.slice A0 l0_0.length c0, .slice A1 l0_1.length c1] 36 (0, 0)))
  have HSW := Aside0.mk hB.size
  have HPX := Aside0.mk (show ∀ q, (P0_1_ q ∧ w0.heap.size ≤ q ∧ q < w.heap.size ∧ ∃ z, z ∈ 92 :: k92.E ∧ ∃ cells, w.heap[q]? = some (.cells cells z (0, 0))) → ¬ (P0_0_ q ∧ w0.heap.size ≤ q ∧ q < w.heap.size ∧ ∃ z, z ∈ 64 :: k64.E ∧ ∃ cells, w.heap[q]? = some (.cells cells z (0, 0))) from fun q h1 h2 => by
    obtain ⟨_, _, _, z1, hz1, cs1, e1⟩ := h1
    obtain ⟨_, _, _, z2, hz2, cs2, e2⟩ := h2
    rw [e1] at e2
    injection e2 with e3
    injection e3 with _ e4 _
    subst e4
    exact (show ∀ z ∈ 92 :: k92.E, z ∉ 64 :: k64.E by decide) z1 hz1 hz2)
  clear hS hR hbx hB ho0_0 ho0_1 A10 A20 h
  go_enter Tryz.func13, Tryz.ntmps13
  go_wp2_with (first
    | (go_at_call 23; (with_reducible refine (laws_markCommitS.calls k _ _ l0_0 a1 t w0 _ HB.out HS.out A1_.out).mono ?_); rintro e w2 ⟨rfl, hb, hk⟩; have HB2 := Aside0.mk hb; have HK2 := Aside0.mk hk; have hxx : w2.heap[w.heap.size]? = some (.cells #[.slice A0 l0_0.length c0, .slice A1 l0_1.length c1] 36 (0, 0)) := (hk.2 w.heap.size (by simp) (fun h_ => Nat.lt_irrefl _ h_.2.2.1)).trans HX.out; have hz0 : w2.cell? ⟨w.heap.size, 0, none⟩ = some (.slice A0 l0_0.length c0) := (blk_cell hxx 0).trans rfl; have hz1 : w2.cell? ⟨w.heap.size, 1, none⟩ = some (.slice A1 l0_1.length c1) := (blk_cell hxx 1).trans rfl; have HR2 := Aside0.mk (Kd.R_step HR.out (fun q hq hlt => hk.2 q hlt (HPX.out q hq))); clear hb hk hxx)
    | (go_at_call 37; (with_reducible refine (laws_markRefS.calls k _ _ l0_1 t u1 u2 w0 _ HB2.out HR2.out A2_.out).mono ?_); rintro e w3 ⟨rfl, hr3, hb, hk⟩; have HB3 := Aside0.mk hb; have HK3 := Aside0.mk hk; clear hr3 hb hk))
  go_ret
  exact ⟨rfl, HB3.out, (((Kept.refl w _).alloc _).then_ HK2.out (fun q hq => .inl (.inl hq.1))).then_ HK3.out (fun q hq => .inl (.inr hq.1))⟩
end Go.Proofs.YtblejbgkcgajgaaGreat.Q
end

section
namespace Go.Proofs.YtblejbgkcgajgaaGreat.Q
open Go.RowKit Go.Proofs.YtblejbgkcgajgaaGreatW.PrintWords Go.Proofs.YtblejbgkcgajgaaGreatW.PrintLast Go.Proofs.YtblejbgkcgajgaaGreatW.PrintMore
attribute [local go_sem] max2_int min2_int max_two min_two max_three min_three max_four min_four   -- for this text's walks alone
set_option linter.unusedVariables false
set_option linter.unusedSimpArgs false
attribute [local go_sem] bin_leq bin_gtr bin_geq
def laws_markEditS.l0 : Nat → List (S68) → Int → Int → Option (Int × (List (S68)))
 | 0, _, _, _ => none
 | k + 1, x0, x1, x5 => if x5 < (x0.length : Int) then ((laws_markText.f k x1).bind fun t364 => (if 0 ≤ x5 then ((some (x0.set (x5 : Int).toNat (⟨t364, (rd_T68 x0 x5).f1, (rd_T68 x0 x5).f2⟩ : S68) : List (S68))).bind fun y365 => ((some (y365.set (x5 : Int).toNat (⟨(rd_T68 y365 x5).f0, wrap64 (x1 + 1), (rd_T68 y365 x5).f2⟩ : S68) : List (S68))).bind fun y366 => (laws_markEditS.l0 k (y366.set (x5 : Int).toNat (⟨(rd_T68 y366 x5).f0, (rd_T68 y366 x5).f1, ((Int.tmod (wrap64 ((wrap64 (x1 + 1)) + 1)) 3) == 0)⟩ : S68)) (wrap64 ((wrap64 ((wrap64 (x1 + 1)) + 1)) + 1)) (wrap64 (x5 + 1))))) else (none))) else (some (x1, x0))
def laws_markEditS.f (k : Nat) (l0 : List (S68)) (a1 : Int) : Option (Int × (List (S68))) := laws_markEditS.l0 k l0 a1 0
set_option maxHeartbeats 8000000 in
set_option maxRecDepth 100000 in
theorem laws_markEditS.calls (k : Nat) (P0_ : Nat → Prop) (u9000_ : Value) (l0 : List (S68)) (a1 : Int) (r1 : Int) (r2 : List (S68)) (w0 w : World) (hB : Below w0.heap.size w0 w) (ho0 : Kd.R k68 68 w w0.heap.size P0_ u9000_ l0) (h : laws_markEditS.f k l0 a1 = some (r1, r2)) :
  Calls Tryz.prog 14 #[u9000_, .int .i64 a1] w fun e w' => e = .returned (.int .i64 r1) ∧ Kd.R k68 68 w' w0.heap.size (fun k_ => (P0_ k_ ∨ w.heap.size ≤ k_)) u9000_ r2 ∧ Below w0.heap.size w0 w' ∧ Kept w w' (fun k_ => P0_ k_) := by
 have HO0 := Aside0.mk (show Kd.R k68 68 w w0.heap.size (fun k_ => (P0_ k_ ∨ w.heap.size ≤ k_)) u9000_ l0 from Kd.R_mono ho0 (fun k_ hk => (.inl hk)))
 have HK := Aside0.mk (Kept.refl w (fun k_ => P0_ k_))
 have HW0 := Aside0.mk hB.size
 have HB := Aside0.mk hB
 clear hB
 have H : (laws_markEditS.l0 k l0 a1 0) = some (r1, r2) := h
 clear h
 have H' := Aside0.mk H
 clear H
 go_enter Tryz.func14, Tryz.ntmps14
 go_wp2
 go_loopg [1, 5] k (fun kq v1 v5 w' => ∃ (x0_1 : List (S68)) (x1_1 : Int) (x5_1 : Int), v1 = .int .i64 x1_1 ∧ v5 = .int .i64 x5_1 ∧ Aside0 (laws_markEditS.l0 kq x0_1 x1_1 x5_1 = some (r1, r2)) ∧ Aside0 (kq ≤ k) ∧ Aside0 (Kd.R k68 68 w' w0.heap.size (fun k_ => (P0_ k_ ∨ w.heap.size ≤ k_)) u9000_ x0_1) ∧ Aside0 (Kept w w' (fun k_ => P0_ k_)) ∧ Aside0 (Below w0.heap.size w0 w'))
 case atStart => exact ⟨(l0), (a1), (0), vE, vE, H', ⟨Nat.le_refl _⟩, ⟨by (with_reducible repeat (first | apply Kd.R_alloc | apply Kd.R_drewN | apply Kd.R_drew)); exact HO0.out⟩, ⟨by repeat (first | (with_reducible first | exact HK.out | apply Kept.alloc | apply Kept.drewN | apply Kept.drew) | exact HK.out)⟩, ⟨bW⟩⟩
 case round =>
  clear H'
  try clear c1
  try clear p2
  obtain ⟨x0_1, x1_1, x5_1, rfl, rfl, HA, HK1, HO_0, HK, HB⟩ := hrel
  cases gk with
  | zero => exact absurd HA.out (by simp [laws_markEditS.l0])
  | succ k1 =>
   have H := HA.out
   clear HA
   simp only [laws_markEditS.l0] at H
   by_cases c3 : x5_1 < (x0_1.length : Int)
   ·rw [if_pos c3] at H
    have c3b0 : decide (x5_1 < (x0_1.length : Int)) = true := decide_eq_true c3
    clear c3
    replace H := Option.bind_eq_some_iff.mp H
    obtain ⟨t364, A40, H⟩ := H
    replace H : (if 0 ≤ x5_1 then ((some (x0_1.set (x5_1 : Int).toNat (⟨t364, (rd_T68 x0_1 x5_1).f1, (rd_T68 x0_1 x5_1).f2⟩ : S68) : List (S68))).bind fun y365 => ((some (y365.set (x5_1 : Int).toNat (⟨(rd_T68 y365 x5_1).f0, wrap64 (x1_1 + 1), (rd_T68 y365 x5_1).f2⟩ : S68) : List (S68))).bind fun y366 => (laws_markEditS.l0 k1 (y366.set (x5_1 : Int).toNat (⟨(rd_T68 y366 x5_1).f0, (rd_T68 y366 x5_1).f1, ((Int.tmod (wrap64 ((wrap64 (x1_1 + 1)) + 1)) 3) == 0)⟩ : S68)) (wrap64 ((wrap64 ((wrap64 (x1_1 + 1)) + 1)) + 1)) (wrap64 (x5_1 + 1))))) else (none)) = some (r1, r2) := H
    have A4 := Aside0.mk A40
    clear A40
    by_cases c5 : 0 ≤ x5_1
    ·rw [if_pos c5] at H
     have c5b0 : decide (0 ≤ x5_1) = true := decide_eq_true c5
     clear c5
     obtain ⟨y365, hy365⟩ : ∃ y_ : List (S68), y_ = (x0_1.set (x5_1 : Int).toNat (⟨t364, (rd_T68 x0_1 x5_1).f1, (rd_T68 x0_1 x5_1).f2⟩ : S68)) := ⟨_, rfl⟩
     replace H : ((some (y365.set (x5_1 : Int).toNat (⟨(rd_T68 y365 x5_1).f0, wrap64 (x1_1 + 1), (rd_T68 y365 x5_1).f2⟩ : S68) : List (S68))).bind fun y366 => (laws_markEditS.l0 k1 (y366.set (x5_1 : Int).toNat (⟨(rd_T68 y366 x5_1).f0, (rd_T68 y366 x5_1).f1, ((Int.tmod (wrap64 ((wrap64 (x1_1 + 1)) + 1)) 3) == 0)⟩ : S68)) (wrap64 ((wrap64 ((wrap64 (x1_1 + 1)) + 1)) + 1)) (wrap64 (x5_1 + 1)))) = some (r1, r2) := by first | (rw [hy365]; with_reducible exact H) | (have H2_ := (Option.bind_some _ _).symm.trans H; rw [hy365]; with_reducible exact H2_) | (have H2_ := (Option.bind_some _ _).symm.trans H; with_reducible exact H2_) | with_reducible exact H | (rw [hy365]; exact H) | exact H
     have Ny365 := Aside0.mk hy365
     clear hy365
     obtain ⟨y366, hy366⟩ : ∃ y_ : List (S68), y_ = (y365.set (x5_1 : Int).toNat (⟨(rd_T68 y365 x5_1).f0, wrap64 (x1_1 + 1), (rd_T68 y365 x5_1).f2⟩ : S68)) := ⟨_, rfl⟩
     replace H : (laws_markEditS.l0 k1 (y366.set (x5_1 : Int).toNat (⟨(rd_T68 y366 x5_1).f0, (rd_T68 y366 x5_1).f1, ((Int.tmod (wrap64 ((wrap64 (x1_1 + 1)) + 1)) 3) == 0)⟩ : S68)) (wrap64 ((wrap64 ((wrap64 (x1_1 + 1)) + 1)) + 1)) (wrap64 (x5_1 + 1))) = some (r1, r2) := by first | (rw [hy366]; with_reducible exact H) | (have H2_ := (Option.bind_some _ _).symm.trans H; rw [hy366]; with_reducible exact H2_) | (have H2_ := (Option.bind_some _ _).symm.trans H; with_reducible exact H2_) | with_reducible exact H | (rw [hy366]; exact H) | exact H
     have Ny366 := Aside0.mk hy366
     clear hy366
     obtain ⟨y367, hy367⟩ : ∃ y_ : List (S68), y_ = (y366.set (x5_1 : Int).toNat (⟨(rd_T68 y366 x5_1).f0, (rd_T68 y366 x5_1).f1, ((Int.tmod (wrap64 ((wrap64 (x1_1 + 1)) + 1)) 3) == 0)⟩ : S68)) := ⟨_, rfl⟩
     replace H : (laws_markEditS.l0 k1 y367 (wrap64 ((wrap64 ((wrap64 (x1_1 + 1)) + 1)) + 1)) (wrap64 (x5_1 + 1))) = some (r1, r2) := by first | (rw [hy367]; with_reducible exact H) | (have H2_ := (Option.bind_some _ _).symm.trans H; rw [hy367]; with_reducible exact H2_) | (have H2_ := (Option.bind_some _ _).symm.trans H; with_reducible exact H2_) | with_reducible exact H | (rw [hy367]; exact H) | exact H
     have Ny367 := Aside0.mk hy367
     clear hy367
     have H' := Aside0.mk H
     clear H
     obtain ⟨Ao9, co9, eo9⟩ := Kd.R_slice HO_0.out
     subst eo9
     go_wp2_with (first | ((with_reducible refine gate_callee (f := 38) rfl ?_); refine goesL_ (some 15) rfl rfl Tryz.func38 (by kernel_rfl) rfl #[.int .i64 x1_1] rfl gA ?_; (with_reducible refine (laws_markText.calls k1 x1_1 t364 _ A4.out).mono ?_); rintro e w10 ⟨rfl, hb⟩; refine ⟨_, rfl, ?_⟩; have n0_ := Aside0.mk (Kd.R_below (pR HO_0) hb); have n1_ := Aside0.mk (Kept.below (S := (fun k_ => P0_ k_)) (by repeat (first | (with_reducible first | exact HK.out | apply Kept.alloc | apply Kept.drewN | apply Kept.drew) | exact HK.out)) hb); have n2_ := Aside0.mk (below_step (w := w0) bW hb); clear HO_0; clear HK; clear HB; have HO_0 := n0_; have HK := n1_; have HB := n2_; clear n0_ n1_ n2_; (try clear hb); (try clear hb2); (try clear hk); (try clear hi); have p6 : 0 ≤ (x5_1 : Int) := odt; have q6 : (x5_1 : Int) < ((x0_1.length : Int) : Int) := odt; obtain ⟨go6, co6, eo6, gb6, gl6, cl6, HG6⟩ := Kd.R_form HO_0.out (by omega); (first | cases eo6 | (injection eo6 with ea_ en_ ec_; (first | subst ea_ | (injection ea_ with ea_; subst ea_)); subst ec_; clear en_)); have GB6 := Aside0.mk gb6; have GG6 := Aside0.mk HG6; clear gb6 gl6 HG6; have HMgo6 := Aside0.mk (show (P0_ go6 ∨ w.heap.size ≤ go6) from (HO_0.out.1 _ rfl)); obtain ⟨ce6, hcl6, hM6, hcc6, hfr6⟩ := Kd.R_elem HO_0.out z68 (x5_1 : Int) p6 q6; obtain rfl := k68_openM hM6; have hx6_0 : w10.cell? ⟨go6, (x5_1 : Int).toNat * 3, none⟩ = some (.string ((rd_T68 x0_1 x5_1).f0)) := hcc6 0 _ rfl; have hx6_1 : w10.cell? ⟨go6, (x5_1 : Int).toNat * 3 + 1, none⟩ = some (.int .i64 ((rd_T68 x0_1 x5_1).f1)) := hcc6 1 _ rfl; have hx6_2 : w10.cell? ⟨go6, (x5_1 : Int).toNat * 3 + 2, none⟩ = some (.bool ((rd_T68 x0_1 x5_1).f2)) := hcc6 2 _ rfl; have hf6_0 : w10.frozen? ⟨go6, (x5_1 : Int).toNat * 3, none⟩ = false := hfr6 0; have hf6_1 : w10.frozen? ⟨go6, (x5_1 : Int).toNat * 3 + 1, none⟩ = false := hfr6 1; have hf6_2 : w10.frozen? ⟨go6, (x5_1 : Int).toNat * 3 + 2, none⟩ = false := hfr6 2; clear hcl6 hcc6 hfr6 hM6; replace p6 := eq_true p6; replace q6 := eq_true q6; have HX11 := Aside0.mk (show Kd.R k68 68 w10 w0.heap.size (fun k_ => (P0_ k_ ∨ w.heap.size ≤ k_)) (.slice (some ⟨go6, 0, none⟩) x0_1.length co9) x0_1 from (pR HO_0)); obtain ⟨ce11, hcl11, hM11, hcc11, hfr11⟩ := Kd.R_elem HX11.out z68 (x5_1 : Int) (odt) (by have h_ : (x5_1 : Int) < ((x0_1.length : Int) : Int) := odt; first | exact h_ | (have e_ := (Kd.R_reads' HO_0.out).1; omega) | simpa using h_); obtain rfl := k68_openM hM11; have HP11 := Kd.R_seg HX11.out (x5_1 : Int) (odt) (by have h_ : (x5_1 : Int) < ((x0_1.length : Int) : Int) := odt; first | exact h_ | (have e_ := (Kd.R_reads' HO_0.out).1; omega) | simpa using h_) (seg := [.string t364]) (j := 0) hcl11 hcc11 (show 1 ≤ 3 from by decide) (x' := (⟨t364, (rd_T68 x0_1 x5_1).f1, (rd_T68 x0_1 x5_1).f2⟩ : S68)) (k68_mkM _ _ _ (⟨t364, (rd_T68 x0_1 x5_1).f1, (rd_T68 x0_1 x5_1).f2⟩ : S68) ) (fun _ hk => hk); have hx11_0 := hcc11 0 _ rfl; (try simp only [show (k68).sz = 3 from rfl, Nat.mul_one, Nat.add_zero] at hx11_0); have hf11_0 := hfr11 0; (try simp only [show (k68).sz = 3 from rfl, Nat.mul_one, Nat.add_zero] at hf11_0); clear hcl11 hcc11 hfr11 hM11) | ((with_reducible refine gate_store (t := 9) (p := 17) rfl ?_); refine store_event (t := 9) (p := 17) (v := ?vo_w12) (w1 := (w10.setCell ⟨go6, (x5_1 : Int).toNat * 3, none⟩ (.string t364))) ?hg ?ho ?hn ?hr ?_; (case ho => rfl); (case hg => rfl); (case hn => rfl); (case hr => first | (go_simp; done) | (go_simp; rfl)); intro w12 hw; have hg : w10.grownBy w12 (some go6) := (by rw [hw]; exact HP11.2); have hp_ : Kd.R k68 68 w12 w0.heap.size (fun k_ => (P0_ k_ ∨ w.heap.size ≤ k_)) (.slice (some ⟨go6, 0, none⟩) x0_1.length co9) y365 := (by rw [hw, Ny365.out]; exact HP11.1); clear HP11; have n0_ := Aside0.mk (hp_); have n1_ := Aside0.mk ((by rw [hw]; exact below_set (HB.out) GB6.out : Below w0.heap.size w0 w12)); have n2_ := Aside0.mk (Kept.of_grown (S := (fun k_ => P0_ k_)) hg (by repeat (first | (with_reducible first | exact HK.out | apply Kept.alloc | apply Kept.drewN | apply Kept.drew) | exact HK.out)) (fun k_ e_ => (HO_0.out.1 k_ e_))); clear HO_0; clear HB; clear HK; have HO_0 := n0_; have HB := n1_; have HK := n2_; clear n0_ n1_ n2_; clear hg hw hp_; have p7 : 0 ≤ (x5_1 : Int) := odt; have q7 : (x5_1 : Int) < ((x0_1.length : Int) : Int) := odt; obtain ⟨ce7, hcl7, hM7, hcc7, hfr7⟩ := Kd.R_elem HO_0.out z68 (x5_1 : Int) p7 q7; obtain rfl := k68_openM hM7; have hx7_0 : w12.cell? ⟨go6, (x5_1 : Int).toNat * 3, none⟩ = some (.string ((rd_T68 y365 x5_1).f0)) := hcc7 0 _ rfl; have hx7_1 : w12.cell? ⟨go6, (x5_1 : Int).toNat * 3 + 1, none⟩ = some (.int .i64 ((rd_T68 y365 x5_1).f1)) := hcc7 1 _ rfl; have hx7_2 : w12.cell? ⟨go6, (x5_1 : Int).toNat * 3 + 2, none⟩ = some (.bool ((rd_T68 y365 x5_1).f2)) := hcc7 2 _ rfl; have hf7_0 : w12.frozen? ⟨go6, (x5_1 : Int).toNat * 3, none⟩ = false := hfr7 0; have hf7_1 : w12.frozen? ⟨go6, (x5_1 : Int).toNat * 3 + 1, none⟩ = false := hfr7 1; have hf7_2 : w12.frozen? ⟨go6, (x5_1 : Int).toNat * 3 + 2, none⟩ = false := hfr7 2; clear hcl7 hcc7 hfr7 hM7; replace p7 := eq_true p7; replace q7 := eq_true q7; have HX13 := Aside0.mk (show Kd.R k68 68 w12 w0.heap.size (fun k_ => (P0_ k_ ∨ w.heap.size ≤ k_)) (.slice (some ⟨go6, 0, none⟩) x0_1.length co9) y365 from (pR HO_0)); obtain ⟨ce13, hcl13, hM13, hcc13, hfr13⟩ := Kd.R_elem HX13.out z68 (x5_1 : Int) (odt) (by have h_ : (x5_1 : Int) < ((x0_1.length : Int) : Int) := odt; first | exact h_ | (have e_ := (Kd.R_reads' HO_0.out).1; omega) | simpa using h_); obtain rfl := k68_openM hM13; have HP13 := Kd.R_seg HX13.out (x5_1 : Int) (odt) (by have h_ : (x5_1 : Int) < ((x0_1.length : Int) : Int) := odt; first | exact h_ | (have e_ := (Kd.R_reads' HO_0.out).1; omega) | simpa using h_) (seg := [.int .i64 (wrap64 (x1_1 + 1))]) (j := 1) hcl13 hcc13 (show 2 ≤ 3 from by decide) (x' := (⟨(rd_T68 y365 x5_1).f0, wrap64 (x1_1 + 1), (rd_T68 y365 x5_1).f2⟩ : S68)) (k68_mkM _ _ _ (⟨(rd_T68 y365 x5_1).f0, wrap64 (x1_1 + 1), (rd_T68 y365 x5_1).f2⟩ : S68) ) (fun _ hk => hk); have hx13_1 := hcc13 1 _ rfl; (try simp only [show (k68).sz = 3 from rfl, Nat.mul_one, Nat.add_zero] at hx13_1); have hf13_1 := hfr13 1; (try simp only [show (k68).sz = 3 from rfl, Nat.mul_one, Nat.add_zero] at hf13_1); clear hcl13 hcc13 hfr13 hM13) | ((with_reducible refine gate_store (t := 3) (p := 24) rfl ?_); refine store_event (t := 3) (p := 24) (v := ?vo_w14) (w1 := (w12.setCell ⟨go6, (x5_1 : Int).toNat * 3 + 1, none⟩ (.int .i64 (wrap64 (x1_1 + 1))))) ?hg ?ho ?hn ?hr ?_; (case ho => rfl); (case hg => rfl); (case hn => rfl); (case hr => first | (go_simp; done) | (go_simp; rfl)); intro w14 hw; have hg : w12.grownBy w14 (some go6) := (by rw [hw]; exact HP13.2); have hp_ : Kd.R k68 68 w14 w0.heap.size (fun k_ => (P0_ k_ ∨ w.heap.size ≤ k_)) (.slice (some ⟨go6, 0, none⟩) x0_1.length co9) y366 := (by rw [hw, Ny366.out]; exact HP13.1); clear HP13; have n0_ := Aside0.mk (hp_); have n1_ := Aside0.mk ((by rw [hw]; exact below_set (HB.out) GB6.out : Below w0.heap.size w0 w14)); have n2_ := Aside0.mk (Kept.of_grown (S := (fun k_ => P0_ k_)) hg (by repeat (first | (with_reducible first | exact HK.out | apply Kept.alloc | apply Kept.drewN | apply Kept.drew) | exact HK.out)) (fun k_ e_ => (HO_0.out.1 k_ e_))); clear HO_0; clear HB; clear HK; have HO_0 := n0_; have HB := n1_; have HK := n2_; clear n0_ n1_ n2_; clear hg hw hp_; have p8 : 0 ≤ (x5_1 : Int) := odt; have q8 : (x5_1 : Int) < ((x0_1.length : Int) : Int) := odt; obtain ⟨ce8, hcl8, hM8, hcc8, hfr8⟩ := Kd.R_elem HO_0.out z68 (x5_1 : Int) p8 q8; obtain rfl := k68_openM hM8; have hx8_0 : w14.cell? ⟨go6, (x5_1 : Int).toNat * 3, none⟩ = some (.string ((rd_T68 y366 x5_1).f0)) := hcc8 0 _ rfl; have hx8_1 : w14.cell? ⟨go6, (x5_1 : Int).toNat * 3 + 1, none⟩ = some (.int .i64 ((rd_T68 y366 x5_1).f1)) := hcc8 1 _ rfl; have hx8_2 : w14.cell? ⟨go6, (x5_1 : Int).toNat * 3 + 2, none⟩ = some (.bool ((rd_T68 y366 x5_1).f2)) := hcc8 2 _ rfl; have hf8_0 : w14.frozen? ⟨go6, (x5_1 : Int).toNat * 3, none⟩ = false := hfr8 0; have hf8_1 : w14.frozen? ⟨go6, (x5_1 : Int).toNat * 3 + 1, none⟩ = false := hfr8 1; have hf8_2 : w14.frozen? ⟨go6, (x5_1 : Int).toNat * 3 + 2, none⟩ = false := hfr8 2; clear hcl8 hcc8 hfr8 hM8; replace p8 := eq_true p8; replace q8 := eq_true q8; have HX15 := Aside0.mk (show Kd.R k68 68 w14 w0.heap.size (fun k_ => (P0_ k_ ∨ w.heap.size ≤ k_)) (.slice (some ⟨go6, 0, none⟩) x0_1.length co9) y366 from (pR HO_0)); obtain ⟨ce15, hcl15, hM15, hcc15, hfr15⟩ := Kd.R_elem HX15.out z68 (x5_1 : Int) (odt) (by have h_ : (x5_1 : Int) < ((x0_1.length : Int) : Int) := odt; first | exact h_ | (have e_ := (Kd.R_reads' HO_0.out).1; omega) | simpa using h_); obtain rfl := k68_openM hM15; have HP15 := Kd.R_seg HX15.out (x5_1 : Int) (odt) (by have h_ : (x5_1 : Int) < ((x0_1.length : Int) : Int) := odt; first | exact h_ | (have e_ := (Kd.R_reads' HO_0.out).1; omega) | simpa using h_) (seg := [.bool ((Int.tmod (wrap64 ((wrap64 (x1_1 + 1)) + 1)) 3) == 0)]) (j := 2) hcl15 hcc15 (show 3 ≤ 3 from by decide) (x' := (⟨(rd_T68 y366 x5_1).f0, (rd_T68 y366 x5_1).f1, ((Int.tmod (wrap64 ((wrap64 (x1_1 + 1)) + 1)) 3) == 0)⟩ : S68)) (k68_mkM _ _ _ (⟨(rd_T68 y366 x5_1).f0, (rd_T68 y366 x5_1).f1, ((Int.tmod (wrap64 ((wrap64 (x1_1 + 1)) + 1)) 3) == 0)⟩ : S68) ) (fun _ hk => hk); have hx15_2 := hcc15 2 _ rfl; (try simp only [show (k68).sz = 3 from rfl, Nat.mul_one, Nat.add_zero] at hx15_2); have hf15_2 := hfr15 2; (try simp only [show (k68).sz = 3 from rfl, Nat.mul_one, Nat.add_zero] at hf15_2); clear hcl15 hcc15 hfr15 hM15) | ((with_reducible refine gate_store (t := 4) (p := 33) rfl ?_); refine store_event (t := 4) (p := 33) (v := ?vo_w16) (w1 := (w14.setCell ⟨go6, (x5_1 : Int).toNat * 3 + 2, none⟩ (.bool ((Int.tmod (wrap64 ((wrap64 (x1_1 + 1)) + 1)) 3) == 0)))) ?hg ?ho ?hn ?hr ?_; (case ho => rfl); (case hg => rfl); (case hn => rfl); (case hr => first | (go_simp; done) | (go_simp; rfl)); intro w16 hw; have hg : w14.grownBy w16 (some go6) := (by rw [hw]; exact HP15.2); have hp_ : Kd.R k68 68 w16 w0.heap.size (fun k_ => (P0_ k_ ∨ w.heap.size ≤ k_)) (.slice (some ⟨go6, 0, none⟩) x0_1.length co9) y367 := (by rw [hw, Ny367.out]; exact HP15.1); clear HP15; have n0_ := Aside0.mk (hp_); have n1_ := Aside0.mk ((by rw [hw]; exact below_set (HB.out) GB6.out : Below w0.heap.size w0 w16)); have n2_ := Aside0.mk (Kept.of_grown (S := (fun k_ => P0_ k_)) hg (by repeat (first | (with_reducible first | exact HK.out | apply Kept.alloc | apply Kept.drewN | apply Kept.drew) | exact HK.out)) (fun k_ e_ => (HO_0.out.1 k_ e_))); clear HO_0; clear HB; clear HK; have HO_0 := n0_; have HB := n1_; have HK := n2_; clear n0_ n1_ n2_; clear hg hw hp_))
     go_roundg k1
     case measure => have := HK1.out; omega
     case rel => exact ⟨(y367), (wrap64 ((wrap64 ((wrap64 (x1_1 + 1)) + 1)) + 1)), (wrap64 (x5_1 + 1)), vE, vE, H', ⟨by have := HK1.out; omega⟩, ⟨by (with_reducible repeat (first | apply Kd.R_alloc | apply Kd.R_drewN | apply Kd.R_drew)); exact HO_0.out⟩, ⟨by repeat (first | (with_reducible first | exact HK.out | apply Kept.alloc | apply Kept.drewN | apply Kept.drew) | exact HK.out)⟩, ⟨bW⟩⟩
    ·rw [if_neg c5] at H
     exact absurd H (by simp)
   ·rw [if_neg c3] at H
    have c3b0 : decide (x5_1 < (x0_1.length : Int)) = false := decide_eq_false c3
    clear c3
    simp only [Option.some.injEq, Prod.mk.injEq] at H
    obtain ⟨rfl, rfl⟩ := H
    obtain ⟨Ao17, co17, eo17⟩ := Kd.R_slice HO_0.out
    subst eo17
    go_wp2
    go_ret
    exact ⟨rE, by (with_reducible repeat (first | apply Kd.R_alloc | apply Kd.R_drewN | apply Kd.R_drew)); exact HO_0.out, by repeat (first | (with_reducible first | exact HB.out | apply below_alloc | apply pw_below_drewN | apply below_drew1) | exact HB.out), by repeat (first | (with_reducible first | exact HK.out | apply Kept.alloc | apply Kept.drewN | apply Kept.drew) | exact HK.out)⟩
end Go.Proofs.YtblejbgkcgajgaaGreat.Q
end

section
namespace Go.Proofs.YtblejbgkcgajgaaGreat.Q
open Go.RowKit Go.Proofs.YtblejbgkcgajgaaGreatW.PrintWords Go.Proofs.YtblejbgkcgajgaaGreatW.PrintLast Go.Proofs.YtblejbgkcgajgaaGreatW.PrintMore
attribute [local go_sem] max2_int min2_int max_two min_two max_three min_three max_four min_four   -- for this text's walks alone
set_option linter.unusedVariables false
set_option linter.unusedSimpArgs false
attribute [local go_sem] bin_leq bin_gtr bin_geq
def laws_heldEditS.l0 : Nat → List (S68) → Int → Int → Option (Int)
 | 0, _, _, _ => none
 | k + 1, x0, x1, x5 => if x5 < (x0.length : Int) then (if 0 ≤ x5 then ((laws_markText.f k x1).bind fun t369 => (if ((rd_T68 x0 x5).f0).toList = t369.toList then (if ((rd_T68 x0 x5).f1) = (wrap64 (x1 + 1)) then (if (((rd_T68 x0 x5).f2) != ((Int.tmod (wrap64 ((wrap64 (x1 + 1)) + 1)) 3) == 0)) = true then (some (-1)) else (laws_heldEditS.l0 k x0 (wrap64 ((wrap64 ((wrap64 (x1 + 1)) + 1)) + 1)) (wrap64 (x5 + 1)))) else (some (-1))) else (some (-1)))) else (none)) else (some x1)
def laws_heldEditS.f (k : Nat) (l0 : List (S68)) (a1 : Int) : Option (Int) := laws_heldEditS.l0 k l0 a1 0
def laws_heldEditS.T4 : Bool × List (List Nat × List Nat) := (true, [([], []), ([], []), ([0, 1], [0, 1]), ([2], [2]), ([3], [3]), ([], []), ([5], [5]), ([4, 6], [4, 6])])
def laws_heldEditS.B4 : List Nat := [0, 0, 3, 7, 15, 0, 32, 127]
theorem laws_heldEditS.tab4 : rtab .any (opsOf Tryz.f15 4) = laws_heldEditS.T4 := by kernel_rfl
theorem laws_heldEditS.bits4 : waitsOk laws_heldEditS.T4.2 laws_heldEditS.B4 = true := by kernel_rfl
set_option maxHeartbeats 8000000 in
set_option maxRecDepth 100000 in
theorem laws_heldEditS.calls (k : Nat) (A0 : Option Addr) (c0 : Nat) (l0 : List (S68)) (a1 : Int) (r : Int) (w : World) (hr0 : Kd.C k68 w A0 l0.length l0) (hc0 : l0.length ≤ c0) (h : laws_heldEditS.f k l0 a1 = some r) :
  Calls Tryz.prog 15 #[.slice A0 l0.length c0, .int .i64 a1] w fun e w' => e = .returned (.int .i64 r) ∧ Below w.heap.size w w' := by
 have HR0 := Aside0.mk hr0
 have HC0 := Aside0.mk hc0
 clear hr0 hc0
 have HB := Aside0.mk (Below.refl w.heap.size w)
 have H : (laws_heldEditS.l0 k l0 a1 0) = some r := h
 clear h
 have H' := Aside0.mk H
 clear H
 go_enter Tryz.func15, Tryz.ntmps15
 go_wp2
 go_loopg [1, 5] k (fun kq v1 v5 w' => ∃ (x1_1 : Int) (x5_1 : Int), v1 = .int .i64 x1_1 ∧ v5 = .int .i64 x5_1 ∧ Aside0 (laws_heldEditS.l0 kq l0 x1_1 x5_1 = some r) ∧ Aside0 (kq ≤ k) ∧ Aside0 (Below w.heap.size w w'))
 case atStart => exact ⟨(a1), (0), vE, vE, H', ⟨Nat.le_refl _⟩, ⟨bW⟩⟩
 case round =>
  clear H'
  try clear c1
  try clear p2
  obtain ⟨x1_1, x5_1, rfl, rfl, HA, HK1, HB⟩ := hrel
  cases gk with
  | zero => exact absurd HA.out (by simp [laws_heldEditS.l0])
  | succ k1 =>
   have H := HA.out
   clear HA
   simp only [laws_heldEditS.l0] at H
   by_cases c3 : x5_1 < (l0.length : Int)
   ·rw [if_pos c3] at H
    have c3b0 : decide (x5_1 < (l0.length : Int)) = true := decide_eq_true c3
    clear c3
    by_cases c4 : 0 ≤ x5_1
    ·rw [if_pos c4] at H
     have c4b0 : decide (0 ≤ x5_1) = true := decide_eq_true c4
     clear c4
     replace H := Option.bind_eq_some_iff.mp H
     obtain ⟨t369, A50, H⟩ := H
     replace H : (if ((rd_T68 l0 x5_1).f0).toList = t369.toList then (if ((rd_T68 l0 x5_1).f1) = (wrap64 (x1_1 + 1)) then (if (((rd_T68 l0 x5_1).f2) != ((Int.tmod (wrap64 ((wrap64 (x1_1 + 1)) + 1)) 3) == 0)) = true then (some (-1)) else (laws_heldEditS.l0 k1 l0 (wrap64 ((wrap64 ((wrap64 (x1_1 + 1)) + 1)) + 1)) (wrap64 (x5_1 + 1)))) else (some (-1))) else (some (-1))) = some r := H
     have A5 := Aside0.mk A50
     clear A50
     by_cases c6 : ((rd_T68 l0 x5_1).f0).toList = t369.toList
     ·rw [if_pos c6] at H
      have c6b0 : (((rd_T68 l0 x5_1).f0).toList == t369.toList) = true := beq_iff_eq.mpr c6
      have c6b1 : (((rd_T68 l0 x5_1).f0).toList != t369.toList) = false := bne_eq_false_iff_eq.mpr c6
      clear c6
      by_cases c7 : ((rd_T68 l0 x5_1).f1) = (wrap64 (x1_1 + 1))
      ·rw [if_pos c7] at H
       have c7b0 : (((rd_T68 l0 x5_1).f1) == (wrap64 (x1_1 + 1))) = true := beq_iff_eq.mpr c7
       have c7b1 : (((rd_T68 l0 x5_1).f1) != (wrap64 (x1_1 + 1))) = false := bne_eq_false_iff_eq.mpr c7
       clear c7
       by_cases c8 : (((rd_T68 l0 x5_1).f2) != ((Int.tmod (wrap64 ((wrap64 (x1_1 + 1)) + 1)) 3) == 0)) = true
       ·rw [if_pos c8] at H
        have c8b0 : (((rd_T68 l0 x5_1).f2) != ((Int.tmod (wrap64 ((wrap64 (x1_1 + 1)) + 1)) 3) == 0)) = true := c8
        (try (have c8b1 : decide (((rd_T68 l0 x5_1).f2) = ((Int.tmod (wrap64 ((wrap64 (x1_1 + 1)) + 1)) 3) == 0)) = false := by simpa using c8))
        (try (have c8b2 : (((rd_T68 l0 x5_1).f2) == ((Int.tmod (wrap64 ((wrap64 (x1_1 + 1)) + 1)) 3) == 0)) = false := by simpa using c8))
        (try (have c8b3 : ¬ (((rd_T68 l0 x5_1).f2) = ((Int.tmod (wrap64 ((wrap64 (x1_1 + 1)) + 1)) 3) == 0)) := by simpa using c8))
        clear c8
        obtain rfl := Option.some.inj H
        try go_wp2
        have n0_ := Aside0.mk (below_drew1 HB.out)
        clear HB
        have HB := n0_
        clear n0_
        have p368 : 0 ≤ (x5_1 : Int) := odt
        have q368 : x5_1 < (l0.length : Int) := odt
        obtain ⟨ad368, e368, hx368_0, hx368_1, hx368_2⟩ := at_T68 HR0.out x5_1 p368 q368
        have hw368_2 := hx368_2
        have hw368_1 := hx368_1
        have hw368_0 := hx368_0
        cases e368
        replace hx368_0 := (HB.out.cell (World.block_lt_of_cell? w _ hx368_0)).trans hx368_0
        replace hx368_1 := (HB.out.cell (World.block_lt_of_cell? w _ hx368_1)).trans hx368_1
        replace hx368_2 := (HB.out.cell (World.block_lt_of_cell? w _ hx368_2)).trans hx368_2
        replace p368 := eq_true p368
        replace q368 := eq_true q368
        refine start_ (n := 8) (S := fun w' => w'.cell? (ad368.add ((x5_1).toNat * 3)) = some (.string ((rd_T68 l0 x5_1).f0)) ∧ w'.cell? ⟨(ad368.add ((x5_1).toNat * 3)).block, (ad368.add ((x5_1).toNat * 3)).off + 1, none⟩ = some (.int .i64 ((rd_T68 l0 x5_1).f1)) ∧ w'.cell? ⟨(ad368.add ((x5_1).toNat * 3)).block, (ad368.add ((x5_1).toNat * 3)).off + 2, none⟩ = some (.bool ((rd_T68 l0 x5_1).f2))) (ds := []) #[false, false, false, false, false, false, false, false] (by kernel_rfl) rfl rfl ⟨((HB.out.cell (World.block_lt_of_cell? w _ hw368_0)).trans hw368_0), ((HB.out.cell (World.block_lt_of_cell? w _ hw368_1)).trans hw368_1), ((HB.out.cell (World.block_lt_of_cell? w _ hw368_2)).trans hw368_2)⟩ (fun hHeld => ?_); refine with_tabW laws_heldEditS.tab4 laws_heldEditS.bits4 (fun HT_ HW_ => ?_)
        generalize wr.drew = w9 at HB hx368_0 hx368_1 hx368_2 hHeld ⊢
        refine pure_ (i := 0) (N := some 12) (v := ?_) (a' := ?_) #[true, false, false, false, false, false, false, false] rfl rfl (any_of HT_.out (by kernel_rfl)) (fun _ _ _ h => h) (Or.inl ⟨by rfl, ?_⟩) ?_ ?_
        rotate_left
        ·intro w'
         go_simp
         with_reducible rfl
        rotate_left
        ·simp only [Act.put, List.setIfInBounds_toArray, List.set_cons_zero, List.set_cons_succ, i64_w, i32_w]
         rfl
        refine pure_ (i := 1) (N := some 13) (v := ?_) (a' := ?_) #[true, true, false, false, false, false, false, false] rfl rfl (any_of HT_.out (by kernel_rfl)) (fun _ _ _ h => h) (Or.inl ⟨by rfl, ?_⟩) ?_ ?_
        rotate_left
        ·intro w'
         go_simp
         with_reducible rfl
        rotate_left
        ·simp only [Act.put, List.setIfInBounds_toArray, List.set_cons_zero, List.set_cons_succ, i64_w, i32_w]
         rfl
        refine pure_ (i := 2) (N := some 14) (v := ?_) (a' := ?_) #[true, true, true, false, false, false, false, false] rfl rfl (any_of HT_.out (by kernel_rfl)) (fun _ _ _ h => h) (Or.inl ⟨by rfl, ?_⟩) ?_ ?_
        rotate_left
        ·intro w'
         go_simp
         with_reducible rfl
        rotate_left
        ·simp only [Act.put, List.setIfInBounds_toArray, List.set_cons_zero, List.set_cons_succ, i64_w, i32_w]
         rfl
        refine pure_ (i := 3) (N := some 15) (v := ?_) (a' := ?_) #[true, true, true, true, false, false, false, false] rfl rfl (any_of HT_.out (by kernel_rfl)) (fun _ _ _ h => h) (Or.inl ⟨by rfl, ?_⟩) ?_ ?_
        rotate_left
        ·intro w'
         go_simp
         with_reducible rfl
        rotate_left
        ·simp only [Act.put, List.setIfInBounds_toArray, List.set_cons_zero, List.set_cons_succ, i64_w, i32_w]
         rfl
        refine pure_ (i := 5) (N := some 17) (v := ?_) (a' := ?_) #[true, true, true, true, false, true, false, false] rfl rfl (any_of HT_.out (by kernel_rfl)) (fun _ _ _ h => h) (Or.inl ⟨by rfl, ?_⟩) ?_ ?_
        rotate_left
        ·intro w'
         go_simp
         with_reducible rfl
        rotate_left
        ·simp only [Act.put, List.setIfInBounds_toArray, List.set_cons_zero, List.set_cons_succ, i64_w, i32_w]
         rfl
        refine take_ (i := 4) (N := some 16) (v := ?_) (a' := ?_) #[true, true, true, true, true, true, false, false] rfl rfl (take_ofW HT_.out HW_.out (by kernel_rfl)) (fun _ _ _ h => h) (Or.inl ⟨by rfl, ?_⟩) hHeld ?_ ?_
        rotate_left
        ·rintro w' ⟨s0, s1, s2⟩
         go_simp
         with_reducible rfl
        rotate_left
        ·simp only [Act.put, List.setIfInBounds_toArray, List.set_cons_zero, List.set_cons_succ, i64_w, i32_w]
         rfl
        refine one_ (i := 6) (N := some 18) #[true, true, true, true, true, true, true, false] rfl rfl (one_of HT_.out (by kernel_rfl)) (by decide) (fun K hK => ?_)
        refine goes_ Tryz.func38 (by kernel_rfl) rfl #[.int .i64 x1_1] (by rfl) rfl rfl gA ?_
        with_reducible refine (laws_markText.calls k1 x1_1 t369 _ A5.out).mono ?_
        rintro e w10 ⟨rfl, hb⟩
        refine ⟨_, rfl, ?_⟩
        have n0_ := Aside0.mk (below_step (w := w) bW hb)
        clear HB
        have HB := n0_
        clear n0_
        (try clear hb)
        (try clear hb2)
        (try clear hk)
        (try clear hi)
        refine hK.out _ _ ⟨((HB.out.cell (World.block_lt_of_cell? w _ hw368_0)).trans hw368_0), ((HB.out.cell (World.block_lt_of_cell? w _ hw368_1)).trans hw368_1), ((HB.out.cell (World.block_lt_of_cell? w _ hw368_2)).trans hw368_2)⟩ (fun hHeld => ?_)
        clear hK K
        refine norm_ (a' := ?_) ?_ ?_
        rotate_left
        ·show Act.put _ (some 18) _ = _
         simp only [Act.put, List.setIfInBounds_toArray, List.set_cons_zero, List.set_cons_succ, i64_w, i32_w]
         rfl
        refine pure_ (i := 7) (N := some 19) (v := ?_) (a' := ?_) #[true, true, true, true, true, true, true, true] rfl rfl (any_of HT_.out (by kernel_rfl)) (fun _ _ _ h => h) (Or.inl ⟨by rfl, ?_⟩) ?_ ?_
        rotate_left
        ·intro w'
         go_simp
         with_reducible rfl
        rotate_left
        ·simp only [Act.put, List.setIfInBounds_toArray, List.set_cons_zero, List.set_cons_succ, i64_w, i32_w]
         rfl
        refine done_ (done_of HT_.out (by kernel_rfl)) ?_
        have p370 : 0 ≤ (x5_1 : Int) := odt
        have q370 : x5_1 < (l0.length : Int) := odt
        obtain ⟨ad370, e370, hx370_0, hx370_1, hx370_2⟩ := at_T68 HR0.out x5_1 p370 q370
        obtain rfl : ad368 = ad370 := (by injection e370)
        replace hx370_0 := (HB.out.cell (World.block_lt_of_cell? w _ hx370_0)).trans hx370_0
        replace hx370_1 := (HB.out.cell (World.block_lt_of_cell? w _ hx370_1)).trans hx370_1
        replace hx370_2 := (HB.out.cell (World.block_lt_of_cell? w _ hx370_2)).trans hx370_2
        replace p370 := eq_true p370
        replace q370 := eq_true q370
        have p371 : 0 ≤ (x5_1 : Int) := odt
        have q371 : x5_1 < (l0.length : Int) := odt
        obtain ⟨ad371, e371, hx371_0, hx371_1, hx371_2⟩ := at_T68 HR0.out x5_1 p371 q371
        obtain rfl : ad368 = ad371 := (by injection e371)
        replace hx371_0 := (HB.out.cell (World.block_lt_of_cell? w _ hx371_0)).trans hx371_0
        replace hx371_1 := (HB.out.cell (World.block_lt_of_cell? w _ hx371_1)).trans hx371_1
        replace hx371_2 := (HB.out.cell (World.block_lt_of_cell? w _ hx371_2)).trans hx371_2
        replace p371 := eq_true p371
        replace q371 := eq_true q371
        try go_wp2
        go_ret
        exact ⟨rE, bW⟩
       ·rw [if_neg c8] at H
        have c8b0 : (((rd_T68 l0 x5_1).f2) != ((Int.tmod (wrap64 ((wrap64 (x1_1 + 1)) + 1)) 3) == 0)) = false := by simpa using c8
        (try (have c8b1 : decide (((rd_T68 l0 x5_1).f2) = ((Int.tmod (wrap64 ((wrap64 (x1_1 + 1)) + 1)) 3) == 0)) = true := by simpa using c8))
        (try (have c8b2 : (((rd_T68 l0 x5_1).f2) == ((Int.tmod (wrap64 ((wrap64 (x1_1 + 1)) + 1)) 3) == 0)) = true := by simpa using c8))
        clear c8
        have H' := Aside0.mk H
        clear H
        try go_wp2
        have n0_ := Aside0.mk (below_drew1 HB.out)
        clear HB
        have HB := n0_
        clear n0_
        have p368 : 0 ≤ (x5_1 : Int) := odt
        have q368 : x5_1 < (l0.length : Int) := odt
        obtain ⟨ad368, e368, hx368_0, hx368_1, hx368_2⟩ := at_T68 HR0.out x5_1 p368 q368
        have hw368_2 := hx368_2
        have hw368_1 := hx368_1
        have hw368_0 := hx368_0
        cases e368
        replace hx368_0 := (HB.out.cell (World.block_lt_of_cell? w _ hx368_0)).trans hx368_0
        replace hx368_1 := (HB.out.cell (World.block_lt_of_cell? w _ hx368_1)).trans hx368_1
        replace hx368_2 := (HB.out.cell (World.block_lt_of_cell? w _ hx368_2)).trans hx368_2
        replace p368 := eq_true p368
        replace q368 := eq_true q368
        refine start_ (n := 8) (S := fun w' => w'.cell? (ad368.add ((x5_1).toNat * 3)) = some (.string ((rd_T68 l0 x5_1).f0)) ∧ w'.cell? ⟨(ad368.add ((x5_1).toNat * 3)).block, (ad368.add ((x5_1).toNat * 3)).off + 1, none⟩ = some (.int .i64 ((rd_T68 l0 x5_1).f1)) ∧ w'.cell? ⟨(ad368.add ((x5_1).toNat * 3)).block, (ad368.add ((x5_1).toNat * 3)).off + 2, none⟩ = some (.bool ((rd_T68 l0 x5_1).f2))) (ds := []) #[false, false, false, false, false, false, false, false] (by kernel_rfl) rfl rfl ⟨((HB.out.cell (World.block_lt_of_cell? w _ hw368_0)).trans hw368_0), ((HB.out.cell (World.block_lt_of_cell? w _ hw368_1)).trans hw368_1), ((HB.out.cell (World.block_lt_of_cell? w _ hw368_2)).trans hw368_2)⟩ (fun hHeld => ?_); refine with_tabW laws_heldEditS.tab4 laws_heldEditS.bits4 (fun HT_ HW_ => ?_)
        generalize wr.drew = w11 at HB hx368_0 hx368_1 hx368_2 hHeld ⊢
        refine pure_ (i := 0) (N := some 12) (v := ?_) (a' := ?_) #[true, false, false, false, false, false, false, false] rfl rfl (any_of HT_.out (by kernel_rfl)) (fun _ _ _ h => h) (Or.inl ⟨by rfl, ?_⟩) ?_ ?_
        rotate_left
        ·intro w'
         go_simp
         with_reducible rfl
        rotate_left
        ·simp only [Act.put, List.setIfInBounds_toArray, List.set_cons_zero, List.set_cons_succ, i64_w, i32_w]
         rfl
        refine pure_ (i := 1) (N := some 13) (v := ?_) (a' := ?_) #[true, true, false, false, false, false, false, false] rfl rfl (any_of HT_.out (by kernel_rfl)) (fun _ _ _ h => h) (Or.inl ⟨by rfl, ?_⟩) ?_ ?_
        rotate_left
        ·intro w'
         go_simp
         with_reducible rfl
        rotate_left
        ·simp only [Act.put, List.setIfInBounds_toArray, List.set_cons_zero, List.set_cons_succ, i64_w, i32_w]
         rfl
        refine pure_ (i := 2) (N := some 14) (v := ?_) (a' := ?_) #[true, true, true, false, false, false, false, false] rfl rfl (any_of HT_.out (by kernel_rfl)) (fun _ _ _ h => h) (Or.inl ⟨by rfl, ?_⟩) ?_ ?_
        rotate_left
        ·intro w'
         go_simp
         with_reducible rfl
        rotate_left
        ·simp only [Act.put, List.setIfInBounds_toArray, List.set_cons_zero, List.set_cons_succ, i64_w, i32_w]
         rfl
        refine pure_ (i := 3) (N := some 15) (v := ?_) (a' := ?_) #[true, true, true, true, false, false, false, false] rfl rfl (any_of HT_.out (by kernel_rfl)) (fun _ _ _ h => h) (Or.inl ⟨by rfl, ?_⟩) ?_ ?_
        rotate_left
        ·intro w'
         go_simp
         with_reducible rfl
        rotate_left
        ·simp only [Act.put, List.setIfInBounds_toArray, List.set_cons_zero, List.set_cons_succ, i64_w, i32_w]
         rfl
        refine pure_ (i := 5) (N := some 17) (v := ?_) (a' := ?_) #[true, true, true, true, false, true, false, false] rfl rfl (any_of HT_.out (by kernel_rfl)) (fun _ _ _ h => h) (Or.inl ⟨by rfl, ?_⟩) ?_ ?_
        rotate_left
        ·intro w'
         go_simp
         with_reducible rfl
        rotate_left
        ·simp only [Act.put, List.setIfInBounds_toArray, List.set_cons_zero, List.set_cons_succ, i64_w, i32_w]
         rfl
        refine take_ (i := 4) (N := some 16) (v := ?_) (a' := ?_) #[true, true, true, true, true, true, false, false] rfl rfl (take_ofW HT_.out HW_.out (by kernel_rfl)) (fun _ _ _ h => h) (Or.inl ⟨by rfl, ?_⟩) hHeld ?_ ?_
        rotate_left
        ·rintro w' ⟨s0, s1, s2⟩
         go_simp
         with_reducible rfl
        rotate_left
        ·simp only [Act.put, List.setIfInBounds_toArray, List.set_cons_zero, List.set_cons_succ, i64_w, i32_w]
         rfl
        refine one_ (i := 6) (N := some 18) #[true, true, true, true, true, true, true, false] rfl rfl (one_of HT_.out (by kernel_rfl)) (by decide) (fun K hK => ?_)
        refine goes_ Tryz.func38 (by kernel_rfl) rfl #[.int .i64 x1_1] (by rfl) rfl rfl gA ?_
        with_reducible refine (laws_markText.calls k1 x1_1 t369 _ A5.out).mono ?_
        rintro e w12 ⟨rfl, hb⟩
        refine ⟨_, rfl, ?_⟩
        have n0_ := Aside0.mk (below_step (w := w) bW hb)
        clear HB
        have HB := n0_
        clear n0_
        (try clear hb)
        (try clear hb2)
        (try clear hk)
        (try clear hi)
        refine hK.out _ _ ⟨((HB.out.cell (World.block_lt_of_cell? w _ hw368_0)).trans hw368_0), ((HB.out.cell (World.block_lt_of_cell? w _ hw368_1)).trans hw368_1), ((HB.out.cell (World.block_lt_of_cell? w _ hw368_2)).trans hw368_2)⟩ (fun hHeld => ?_)
        clear hK K
        refine norm_ (a' := ?_) ?_ ?_
        rotate_left
        ·show Act.put _ (some 18) _ = _
         simp only [Act.put, List.setIfInBounds_toArray, List.set_cons_zero, List.set_cons_succ, i64_w, i32_w]
         rfl
        refine pure_ (i := 7) (N := some 19) (v := ?_) (a' := ?_) #[true, true, true, true, true, true, true, true] rfl rfl (any_of HT_.out (by kernel_rfl)) (fun _ _ _ h => h) (Or.inl ⟨by rfl, ?_⟩) ?_ ?_
        rotate_left
        ·intro w'
         go_simp
         with_reducible rfl
        rotate_left
        ·simp only [Act.put, List.setIfInBounds_toArray, List.set_cons_zero, List.set_cons_succ, i64_w, i32_w]
         rfl
        refine done_ (done_of HT_.out (by kernel_rfl)) ?_
        have p370 : 0 ≤ (x5_1 : Int) := odt
        have q370 : x5_1 < (l0.length : Int) := odt
        obtain ⟨ad370, e370, hx370_0, hx370_1, hx370_2⟩ := at_T68 HR0.out x5_1 p370 q370
        obtain rfl : ad368 = ad370 := (by injection e370)
        replace hx370_0 := (HB.out.cell (World.block_lt_of_cell? w _ hx370_0)).trans hx370_0
        replace hx370_1 := (HB.out.cell (World.block_lt_of_cell? w _ hx370_1)).trans hx370_1
        replace hx370_2 := (HB.out.cell (World.block_lt_of_cell? w _ hx370_2)).trans hx370_2
        replace p370 := eq_true p370
        replace q370 := eq_true q370
        have p371 : 0 ≤ (x5_1 : Int) := odt
        have q371 : x5_1 < (l0.length : Int) := odt
        obtain ⟨ad371, e371, hx371_0, hx371_1, hx371_2⟩ := at_T68 HR0.out x5_1 p371 q371
        obtain rfl : ad368 = ad371 := (by injection e371)
        replace hx371_0 := (HB.out.cell (World.block_lt_of_cell? w _ hx371_0)).trans hx371_0
        replace hx371_1 := (HB.out.cell (World.block_lt_of_cell? w _ hx371_1)).trans hx371_1
        replace hx371_2 := (HB.out.cell (World.block_lt_of_cell? w _ hx371_2)).trans hx371_2
        replace p371 := eq_true p371
        replace q371 := eq_true q371
        try go_wp2
        go_roundg k1
        case measure => have := HK1.out; omega
        case rel => exact ⟨(wrap64 ((wrap64 ((wrap64 (x1_1 + 1)) + 1)) + 1)), (wrap64 (x5_1 + 1)), vE, vE, H', ⟨by have := HK1.out; omega⟩, ⟨bW⟩⟩
      ·rw [if_neg c7] at H
       have c7b0 : (((rd_T68 l0 x5_1).f1) == (wrap64 (x1_1 + 1))) = false := beq_eq_false_iff_ne.mpr c7
       have c7b1 : (((rd_T68 l0 x5_1).f1) != (wrap64 (x1_1 + 1))) = true := bne_iff_ne.mpr c7
       obtain rfl := Option.some.inj H
       try go_wp2
       have n0_ := Aside0.mk (below_drew1 HB.out)
       clear HB
       have HB := n0_
       clear n0_
       have p368 : 0 ≤ (x5_1 : Int) := odt
       have q368 : x5_1 < (l0.length : Int) := odt
       obtain ⟨ad368, e368, hx368_0, hx368_1, hx368_2⟩ := at_T68 HR0.out x5_1 p368 q368
       have hw368_2 := hx368_2
       have hw368_1 := hx368_1
       have hw368_0 := hx368_0
       cases e368
       replace hx368_0 := (HB.out.cell (World.block_lt_of_cell? w _ hx368_0)).trans hx368_0
       replace hx368_1 := (HB.out.cell (World.block_lt_of_cell? w _ hx368_1)).trans hx368_1
       replace hx368_2 := (HB.out.cell (World.block_lt_of_cell? w _ hx368_2)).trans hx368_2
       replace p368 := eq_true p368
       replace q368 := eq_true q368
       refine start_ (n := 8) (S := fun w' => w'.cell? (ad368.add ((x5_1).toNat * 3)) = some (.string ((rd_T68 l0 x5_1).f0)) ∧ w'.cell? ⟨(ad368.add ((x5_1).toNat * 3)).block, (ad368.add ((x5_1).toNat * 3)).off + 1, none⟩ = some (.int .i64 ((rd_T68 l0 x5_1).f1)) ∧ w'.cell? ⟨(ad368.add ((x5_1).toNat * 3)).block, (ad368.add ((x5_1).toNat * 3)).off + 2, none⟩ = some (.bool ((rd_T68 l0 x5_1).f2))) (ds := []) #[false, false, false, false, false, false, false, false] (by kernel_rfl) rfl rfl ⟨((HB.out.cell (World.block_lt_of_cell? w _ hw368_0)).trans hw368_0), ((HB.out.cell (World.block_lt_of_cell? w _ hw368_1)).trans hw368_1), ((HB.out.cell (World.block_lt_of_cell? w _ hw368_2)).trans hw368_2)⟩ (fun hHeld => ?_); refine with_tabW laws_heldEditS.tab4 laws_heldEditS.bits4 (fun HT_ HW_ => ?_)
       generalize wr.drew = w13 at HB hx368_0 hx368_1 hx368_2 hHeld ⊢
       refine pure_ (i := 0) (N := some 12) (v := ?_) (a' := ?_) #[true, false, false, false, false, false, false, false] rfl rfl (any_of HT_.out (by kernel_rfl)) (fun _ _ _ h => h) (Or.inl ⟨by rfl, ?_⟩) ?_ ?_
       rotate_left
       ·intro w'
        go_simp
        with_reducible rfl
       rotate_left
       ·simp only [Act.put, List.setIfInBounds_toArray, List.set_cons_zero, List.set_cons_succ, i64_w, i32_w]
        rfl
       refine pure_ (i := 1) (N := some 13) (v := ?_) (a' := ?_) #[true, true, false, false, false, false, false, false] rfl rfl (any_of HT_.out (by kernel_rfl)) (fun _ _ _ h => h) (Or.inl ⟨by rfl, ?_⟩) ?_ ?_
       rotate_left
       ·intro w'
        go_simp
        with_reducible rfl
       rotate_left
       ·simp only [Act.put, List.setIfInBounds_toArray, List.set_cons_zero, List.set_cons_succ, i64_w, i32_w]
        rfl
       refine pure_ (i := 2) (N := some 14) (v := ?_) (a' := ?_) #[true, true, true, false, false, false, false, false] rfl rfl (any_of HT_.out (by kernel_rfl)) (fun _ _ _ h => h) (Or.inl ⟨by rfl, ?_⟩) ?_ ?_
       rotate_left
       ·intro w'
        go_simp
        with_reducible rfl
       rotate_left
       ·simp only [Act.put, List.setIfInBounds_toArray, List.set_cons_zero, List.set_cons_succ, i64_w, i32_w]
        rfl
       refine pure_ (i := 3) (N := some 15) (v := ?_) (a' := ?_) #[true, true, true, true, false, false, false, false] rfl rfl (any_of HT_.out (by kernel_rfl)) (fun _ _ _ h => h) (Or.inl ⟨by rfl, ?_⟩) ?_ ?_
       rotate_left
       ·intro w'
        go_simp
        with_reducible rfl
       rotate_left
       ·simp only [Act.put, List.setIfInBounds_toArray, List.set_cons_zero, List.set_cons_succ, i64_w, i32_w]
        rfl
       refine pure_ (i := 5) (N := some 17) (v := ?_) (a' := ?_) #[true, true, true, true, false, true, false, false] rfl rfl (any_of HT_.out (by kernel_rfl)) (fun _ _ _ h => h) (Or.inl ⟨by rfl, ?_⟩) ?_ ?_
       rotate_left
       ·intro w'
        go_simp
        with_reducible rfl
       rotate_left
       ·simp only [Act.put, List.setIfInBounds_toArray, List.set_cons_zero, List.set_cons_succ, i64_w, i32_w]
        rfl
       refine take_ (i := 4) (N := some 16) (v := ?_) (a' := ?_) #[true, true, true, true, true, true, false, false] rfl rfl (take_ofW HT_.out HW_.out (by kernel_rfl)) (fun _ _ _ h => h) (Or.inl ⟨by rfl, ?_⟩) hHeld ?_ ?_
       rotate_left
       ·rintro w' ⟨s0, s1, s2⟩
        go_simp
        with_reducible rfl
       rotate_left
       ·simp only [Act.put, List.setIfInBounds_toArray, List.set_cons_zero, List.set_cons_succ, i64_w, i32_w]
        rfl
       refine one_ (i := 6) (N := some 18) #[true, true, true, true, true, true, true, false] rfl rfl (one_of HT_.out (by kernel_rfl)) (by decide) (fun K hK => ?_)
       refine goes_ Tryz.func38 (by kernel_rfl) rfl #[.int .i64 x1_1] (by rfl) rfl rfl gA ?_
       with_reducible refine (laws_markText.calls k1 x1_1 t369 _ A5.out).mono ?_
       rintro e w14 ⟨rfl, hb⟩
       refine ⟨_, rfl, ?_⟩
       have n0_ := Aside0.mk (below_step (w := w) bW hb)
       clear HB
       have HB := n0_
       clear n0_
       (try clear hb)
       (try clear hb2)
       (try clear hk)
       (try clear hi)
       refine hK.out _ _ ⟨((HB.out.cell (World.block_lt_of_cell? w _ hw368_0)).trans hw368_0), ((HB.out.cell (World.block_lt_of_cell? w _ hw368_1)).trans hw368_1), ((HB.out.cell (World.block_lt_of_cell? w _ hw368_2)).trans hw368_2)⟩ (fun hHeld => ?_)
       clear hK K
       refine norm_ (a' := ?_) ?_ ?_
       rotate_left
       ·show Act.put _ (some 18) _ = _
        simp only [Act.put, List.setIfInBounds_toArray, List.set_cons_zero, List.set_cons_succ, i64_w, i32_w]
        rfl
       refine pure_ (i := 7) (N := some 19) (v := ?_) (a' := ?_) #[true, true, true, true, true, true, true, true] rfl rfl (any_of HT_.out (by kernel_rfl)) (fun _ _ _ h => h) (Or.inl ⟨by rfl, ?_⟩) ?_ ?_
       rotate_left
       ·intro w'
        go_simp
        with_reducible rfl
       rotate_left
       ·simp only [Act.put, List.setIfInBounds_toArray, List.set_cons_zero, List.set_cons_succ, i64_w, i32_w]
        rfl
       refine done_ (done_of HT_.out (by kernel_rfl)) ?_
       have p370 : 0 ≤ (x5_1 : Int) := odt
       have q370 : x5_1 < (l0.length : Int) := odt
       obtain ⟨ad370, e370, hx370_0, hx370_1, hx370_2⟩ := at_T68 HR0.out x5_1 p370 q370
       obtain rfl : ad368 = ad370 := (by injection e370)
       replace hx370_0 := (HB.out.cell (World.block_lt_of_cell? w _ hx370_0)).trans hx370_0
       replace hx370_1 := (HB.out.cell (World.block_lt_of_cell? w _ hx370_1)).trans hx370_1
       replace hx370_2 := (HB.out.cell (World.block_lt_of_cell? w _ hx370_2)).trans hx370_2
       replace p370 := eq_true p370
       replace q370 := eq_true q370
       try go_wp2
       go_ret
       exact ⟨rE, bW⟩
     ·rw [if_neg c6] at H
      have c6b0 : (((rd_T68 l0 x5_1).f0).toList == t369.toList) = false := beq_eq_false_iff_ne.mpr c6
      have c6b1 : (((rd_T68 l0 x5_1).f0).toList != t369.toList) = true := bne_iff_ne.mpr c6
      obtain rfl := Option.some.inj H
      try go_wp2
      have n0_ := Aside0.mk (below_drew1 HB.out)
      clear HB
      have HB := n0_
      clear n0_
      have p368 : 0 ≤ (x5_1 : Int) := odt
      have q368 : x5_1 < (l0.length : Int) := odt
      obtain ⟨ad368, e368, hx368_0, hx368_1, hx368_2⟩ := at_T68 HR0.out x5_1 p368 q368
      have hw368_2 := hx368_2
      have hw368_1 := hx368_1
      have hw368_0 := hx368_0
      cases e368
      replace hx368_0 := (HB.out.cell (World.block_lt_of_cell? w _ hx368_0)).trans hx368_0
      replace hx368_1 := (HB.out.cell (World.block_lt_of_cell? w _ hx368_1)).trans hx368_1
      replace hx368_2 := (HB.out.cell (World.block_lt_of_cell? w _ hx368_2)).trans hx368_2
      replace p368 := eq_true p368
      replace q368 := eq_true q368
      refine start_ (n := 8) (S := fun w' => w'.cell? (ad368.add ((x5_1).toNat * 3)) = some (.string ((rd_T68 l0 x5_1).f0)) ∧ w'.cell? ⟨(ad368.add ((x5_1).toNat * 3)).block, (ad368.add ((x5_1).toNat * 3)).off + 1, none⟩ = some (.int .i64 ((rd_T68 l0 x5_1).f1)) ∧ w'.cell? ⟨(ad368.add ((x5_1).toNat * 3)).block, (ad368.add ((x5_1).toNat * 3)).off + 2, none⟩ = some (.bool ((rd_T68 l0 x5_1).f2))) (ds := []) #[false, false, false, false, false, false, false, false] (by kernel_rfl) rfl rfl ⟨((HB.out.cell (World.block_lt_of_cell? w _ hw368_0)).trans hw368_0), ((HB.out.cell (World.block_lt_of_cell? w _ hw368_1)).trans hw368_1), ((HB.out.cell (World.block_lt_of_cell? w _ hw368_2)).trans hw368_2)⟩ (fun hHeld => ?_); refine with_tabW laws_heldEditS.tab4 laws_heldEditS.bits4 (fun HT_ HW_ => ?_)
      generalize wr.drew = w15 at HB hx368_0 hx368_1 hx368_2 hHeld ⊢
      refine pure_ (i := 0) (N := some 12) (v := ?_) (a' := ?_) #[true, false, false, false, false, false, false, false] rfl rfl (any_of HT_.out (by kernel_rfl)) (fun _ _ _ h => h) (Or.inl ⟨by rfl, ?_⟩) ?_ ?_
      rotate_left
      ·intro w'
       go_simp
       with_reducible rfl
      rotate_left
      ·simp only [Act.put, List.setIfInBounds_toArray, List.set_cons_zero, List.set_cons_succ, i64_w, i32_w]
       rfl
      refine pure_ (i := 1) (N := some 13) (v := ?_) (a' := ?_) #[true, true, false, false, false, false, false, false] rfl rfl (any_of HT_.out (by kernel_rfl)) (fun _ _ _ h => h) (Or.inl ⟨by rfl, ?_⟩) ?_ ?_
      rotate_left
      ·intro w'
       go_simp
       with_reducible rfl
      rotate_left
      ·simp only [Act.put, List.setIfInBounds_toArray, List.set_cons_zero, List.set_cons_succ, i64_w, i32_w]
       rfl
      refine pure_ (i := 2) (N := some 14) (v := ?_) (a' := ?_) #[true, true, true, false, false, false, false, false] rfl rfl (any_of HT_.out (by kernel_rfl)) (fun _ _ _ h => h) (Or.inl ⟨by rfl, ?_⟩) ?_ ?_
      rotate_left
      ·intro w'
       go_simp
       with_reducible rfl
      rotate_left
      ·simp only [Act.put, List.setIfInBounds_toArray, List.set_cons_zero, List.set_cons_succ, i64_w, i32_w]
       rfl
      refine pure_ (i := 3) (N := some 15) (v := ?_) (a' := ?_) #[true, true, true, true, false, false, false, false] rfl rfl (any_of HT_.out (by kernel_rfl)) (fun _ _ _ h => h) (Or.inl ⟨by rfl, ?_⟩) ?_ ?_
      rotate_left
      ·intro w'
       go_simp
       with_reducible rfl
      rotate_left
      ·simp only [Act.put, List.setIfInBounds_toArray, List.set_cons_zero, List.set_cons_succ, i64_w, i32_w]
       rfl
      refine pure_ (i := 5) (N := some 17) (v := ?_) (a' := ?_) #[true, true, true, true, false, true, false, false] rfl rfl (any_of HT_.out (by kernel_rfl)) (fun _ _ _ h => h) (Or.inl ⟨by rfl, ?_⟩) ?_ ?_
      rotate_left
      ·intro w'
       go_simp
       with_reducible rfl
      rotate_left
      ·simp only [Act.put, List.setIfInBounds_toArray, List.set_cons_zero, List.set_cons_succ, i64_w, i32_w]
       rfl
      refine take_ (i := 4) (N := some 16) (v := ?_) (a' := ?_) #[true, true, true, true, true, true, false, false] rfl rfl (take_ofW HT_.out HW_.out (by kernel_rfl)) (fun _ _ _ h => h) (Or.inl ⟨by rfl, ?_⟩) hHeld ?_ ?_
      rotate_left
      ·rintro w' ⟨s0, s1, s2⟩
       go_simp
       with_reducible rfl
      rotate_left
      ·simp only [Act.put, List.setIfInBounds_toArray, List.set_cons_zero, List.set_cons_succ, i64_w, i32_w]
       rfl
      refine one_ (i := 6) (N := some 18) #[true, true, true, true, true, true, true, false] rfl rfl (one_of HT_.out (by kernel_rfl)) (by decide) (fun K hK => ?_)
      refine goes_ Tryz.func38 (by kernel_rfl) rfl #[.int .i64 x1_1] (by rfl) rfl rfl gA ?_
      with_reducible refine (laws_markText.calls k1 x1_1 t369 _ A5.out).mono ?_
      rintro e w16 ⟨rfl, hb⟩
      refine ⟨_, rfl, ?_⟩
      have n0_ := Aside0.mk (below_step (w := w) bW hb)
      clear HB
      have HB := n0_
      clear n0_
      (try clear hb)
      (try clear hb2)
      (try clear hk)
      (try clear hi)
      refine hK.out _ _ ⟨((HB.out.cell (World.block_lt_of_cell? w _ hw368_0)).trans hw368_0), ((HB.out.cell (World.block_lt_of_cell? w _ hw368_1)).trans hw368_1), ((HB.out.cell (World.block_lt_of_cell? w _ hw368_2)).trans hw368_2)⟩ (fun hHeld => ?_)
      clear hK K
      refine norm_ (a' := ?_) ?_ ?_
      rotate_left
      ·show Act.put _ (some 18) _ = _
       simp only [Act.put, List.setIfInBounds_toArray, List.set_cons_zero, List.set_cons_succ, i64_w, i32_w]
       rfl
      refine pure_ (i := 7) (N := some 19) (v := ?_) (a' := ?_) #[true, true, true, true, true, true, true, true] rfl rfl (any_of HT_.out (by kernel_rfl)) (fun _ _ _ h => h) (Or.inl ⟨by rfl, ?_⟩) ?_ ?_
      rotate_left
      ·intro w'
       go_simp
       with_reducible rfl
      rotate_left
      ·simp only [Act.put, List.setIfInBounds_toArray, List.set_cons_zero, List.set_cons_succ, i64_w, i32_w]
       rfl
      refine done_ (done_of HT_.out (by kernel_rfl)) ?_
      try go_wp2
      go_ret
      exact ⟨rE, bW⟩
    ·rw [if_neg c4] at H
     exact absurd H (by simp)
   ·rw [if_neg c3] at H
    have c3b0 : decide (x5_1 < (l0.length : Int)) = false := decide_eq_false c3
    clear c3
    obtain rfl := Option.some.inj H
    go_wp2
    go_ret
    exact ⟨rE, bW⟩
end Go.Proofs.YtblejbgkcgajgaaGreat.Q
end

section
namespace Go.Proofs.YtblejbgkcgajgaaGreat.Q
open Go.RowKit Go.Proofs.YtblejbgkcgajgaaGreatW.PrintWords Go.Proofs.YtblejbgkcgajgaaGreatW.PrintLast Go.Proofs.YtblejbgkcgajgaaGreatW.PrintMore
attribute [local go_sem] max2_int min2_int max_two min_two max_three min_three max_four min_four   -- for this text's walks alone
set_option linter.unusedVariables false
set_option linter.unusedSimpArgs false
attribute [local go_sem] bin_leq bin_gtr bin_geq
mutual
def laws_FnExactDiffSnaps.j0 : Nat → List (S68) → Int → List (S68) → Int → Bool → List (S75) → List (S89) → ByteArray → Int → ByteArray → Int → List (S64) → List (S92) → Option (Bool)
 | 0, _, _, _, _, _, _, _, _, _, _, _, _, _ => none
 | k + 1, x8, x9, x11, x12, x62, x373000, x373001, x374000, x374001, x375000, x375001, x399000, x399001 => if x62 = true then (some false) else ((laws_toBase.f k x373000 x373001).bind fun bt408 => ((laws_eqBase.f k x399000 x399001 bt408.1 bt408.2).bind fun t414 => (if t414 = true then ((laws_markBase.f k x399000 x399001 1).bind fun t415 => (if t415 < 0 then (laws_FnExactDiffSnaps.j1 k x8 x9 x11 true x373000 x373001 x374000 x374001 x375000 x375001) else ((laws_eqEditS.f k x11 x8).bind fun t416 => (if t416 = true then (laws_FnExactDiffSnaps.j1 k x8 x9 x11 (x12 != x9) x373000 x373001 x374000 x374001 x375000 x375001) else (laws_FnExactDiffSnaps.j1 k x8 x9 x11 true x373000 x373001 x374000 x374001 x375000 x375001))))) else (some false))))
def laws_FnExactDiffSnaps.j1 : Nat → List (S68) → Int → List (S68) → Bool → List (S75) → List (S89) → ByteArray → Int → ByteArray → Int → Option (Bool)
 | 0, _, _, _, _, _, _, _, _, _, _ => none
 | k + 1, x8, x9, x11, x83, x373000, x373001, x374000, x374001, x375000, x375001 => if x83 = true then (some false) else ((laws_markEditS.f k x11 1).bind fun bt417 => ((laws_heldEditS.f k bt417.2 1).bind fun t419 => (if t419 < 0 then (some false) else (if t419 = bt417.1 then ((laws_toBase.f k x373000 x373001).bind fun bt420 => ((laws_toSnap.f x374000 x374001).bind fun bt426 => ((laws_toSnap.f x375000 x375001).bind fun bt428 => ((impl_DiffSnaps.f k bt420.1 bt420.2 bt426.1 bt426.2 bt428.1 bt428.2).bind fun bt430 => ((laws_eqEditS.f k bt430.1 x8).bind fun t434 => (if t434 = true then (laws_FnExactDiffSnaps.j2 k bt417.2 bt417.1 (bt430.2 != x9)) else (laws_FnExactDiffSnaps.j2 k bt417.2 bt417.1 true))))))) else (some false)))))
def laws_FnExactDiffSnaps.j2 : Nat → List (S68) → Int → Bool → Option (Bool)
 | 0, _, _, _ => none
 | k + 1, x11, x14, x113 => if x113 = true then (some false) else ((laws_heldEditS.f k x11 1).bind fun t435 => (if t435 < 0 then (some false) else (if t435 = x14 then (some true) else (some false))))
end
def laws_FnExactDiffSnaps.f (k : Nat) (l0_0 : List (S75)) (l0_1 : List (S89)) (a1_0 : ByteArray) (a1_1 : Int) (a2_0 : ByteArray) (a2_1 : Int) : Option (Bool) := (laws_szBase.f k l0_0 l0_1 1048576).bind fun t375 => (if t375 < 0 then (some true) else ((laws_szSnap.f a1_0 a1_1 t375).bind fun t376 => (if t376 < 0 then (some true) else ((laws_szSnap.f a2_0 a2_1 t376).bind fun t377 => (if t377 < 0 then (some true) else ((laws_toBase.f k l0_0 l0_1).bind fun bt378 => ((laws_toSnap.f a1_0 a1_1).bind fun bt384 => ((laws_toSnap.f a2_0 a2_1).bind fun bt386 => ((spec_DiffSnaps.f k bt378.1 bt378.2 bt384.1 bt384.2 bt386.1 bt386.2).bind fun bt388 => ((laws_toBase.f k l0_0 l0_1).bind fun bt392 => ((laws_toSnap.f a1_0 a1_1).bind fun bt399 => ((laws_toSnap.f a2_0 a2_1).bind fun bt401 => ((impl_DiffSnaps.f k bt392.1 bt392.2 bt399.1 bt399.2 bt401.1 bt401.2).bind fun bt403 => ((laws_eqEditS.f k bt403.1 bt388.1).bind fun t407 => (if t407 = true then (laws_FnExactDiffSnaps.j0 k bt388.1 bt388.2 bt403.1 bt403.2 (bt403.2 != bt388.2) l0_0 l0_1 a1_0 a1_1 a2_0 a2_1 bt392.1 bt392.2) else (laws_FnExactDiffSnaps.j0 k bt388.1 bt388.2 bt403.1 bt403.2 true l0_0 l0_1 a1_0 a1_1 a2_0 a2_1 bt392.1 bt392.2))))))))))))))))
def laws_FnExactDiffSnaps.T11 : Bool × List (List Nat × List Nat) := (true, [([], []), ([0], [0]), ([], []), ([2, 1], [2]), ([], []), ([4, 3], [4]), ([1, 3, 5, 5], [1, 3, 5]), ([6], [6]), ([7], [7]), ([7], [7]), ([8, 6, 0, 1, 2, 3, 4, 5, 6, 7, 8], [8]), ([9, 10, 0, 1, 2, 3, 4, 5, 6, 7, 8, 9, 10], [9])])
def laws_FnExactDiffSnaps.B11 : List Nat := [0, 1, 0, 7, 0, 31, 63, 127, 255, 255, 511, 2047]
theorem laws_FnExactDiffSnaps.tab11 : rtab .any (opsOf Tryz.f3 11) = laws_FnExactDiffSnaps.T11 := by kernel_rfl
theorem laws_FnExactDiffSnaps.bits11 : waitsOk laws_FnExactDiffSnaps.T11.2 laws_FnExactDiffSnaps.B11 = true := by kernel_rfl
def laws_FnExactDiffSnaps.T13 : Bool × List (List Nat × List Nat) := (true, [([], []), ([], []), ([1], [1]), ([], []), ([3, 2], [3]), ([0, 2, 4, 4], [0, 2, 4]), ([5], [5]), ([6], [6]), ([6], [6]), ([7, 5, 0, 1, 2, 3, 4, 5, 6, 7], [7]), ([8, 9, 0, 1, 2, 3, 4, 5, 6, 7, 8, 9], [8])])
def laws_FnExactDiffSnaps.B13 : List Nat := [0, 0, 2, 0, 14, 31, 63, 127, 127, 255, 1023]
theorem laws_FnExactDiffSnaps.tab13 : rtab .any (opsOf Tryz.f3 13) = laws_FnExactDiffSnaps.T13 := by kernel_rfl
theorem laws_FnExactDiffSnaps.bits13 : waitsOk laws_FnExactDiffSnaps.T13.2 laws_FnExactDiffSnaps.B13 = true := by kernel_rfl
def laws_FnExactDiffSnaps.T30 : Bool × List (List Nat × List Nat) := (true, [([], []), ([0], [0]), ([], []), ([2, 1], [2]), ([], []), ([4, 3], [4]), ([1, 3, 5, 5], [1, 3, 5]), ([6], [6]), ([7], [7]), ([7], [7]), ([8, 6, 0, 1, 2, 3, 4, 5, 6, 7, 8], [8]), ([9, 10, 0, 1, 2, 3, 4, 5, 6, 7, 8, 9, 10], [9])])
def laws_FnExactDiffSnaps.B30 : List Nat := [0, 1, 0, 7, 0, 31, 63, 127, 255, 255, 511, 2047]
theorem laws_FnExactDiffSnaps.tab30 : rtab .any (opsOf Tryz.f3 30) = laws_FnExactDiffSnaps.T30 := by kernel_rfl
theorem laws_FnExactDiffSnaps.bits30 : waitsOk laws_FnExactDiffSnaps.T30.2 laws_FnExactDiffSnaps.B30 = true := by kernel_rfl
set_option maxHeartbeats 8000000 in
set_option maxRecDepth 100000 in
theorem laws_FnExactDiffSnaps.calls (k : Nat) (A0_0 : Option Addr) (c0_0 : Nat) (l0_0 : List (S75)) (A0_1 : Option Addr) (c0_1 : Nat) (l0_1 : List (S89)) (a1_0 : ByteArray) (a1_1 : Int) (a2_0 : ByteArray) (a2_1 : Int) (w : World) (hr0_0 : Kd.C k75 w A0_0 l0_0.length l0_0) (hc0_0 : l0_0.length ≤ c0_0) (hr0_1 : Kd.C k89 w A0_1 l0_1.length l0_1) (hc0_1 : l0_1.length ≤ c0_1) (h : laws_FnExactDiffSnaps.f k l0_0 l0_1 a1_0 a1_1 a2_0 a2_1 = some true) :
  Calls Tryz.prog 3 #[.agg #[.slice A0_0 l0_0.length c0_0, .slice A0_1 l0_1.length c0_1], .agg #[.string a1_0, .int .i64 a1_1], .agg #[.string a2_0, .int .i64 a2_1]] w fun e w' => e = .returned (.bool true) ∧ Below w.heap.size w w' := by
 have hu25 := Tryz.underlying25
 have hu27 := Tryz.underlying27
 have hu36 := Tryz.underlying36
 have HR0_0 := Aside0.mk hr0_0
 have HC0_0 := Aside0.mk hc0_0
 clear hr0_0 hc0_0
 have HR0_1 := Aside0.mk hr0_1
 have HC0_1 := Aside0.mk hc0_1
 clear hr0_1 hc0_1
 have HB := Aside0.mk (Below.refl w.heap.size w)
 have H : ((laws_szBase.f k l0_0 l0_1 1048576).bind fun t375 => (if t375 < 0 then (some true) else ((laws_szSnap.f a1_0 a1_1 t375).bind fun t376 => (if t376 < 0 then (some true) else ((laws_szSnap.f a2_0 a2_1 t376).bind fun t377 => (if t377 < 0 then (some true) else ((laws_toBase.f k l0_0 l0_1).bind fun bt378 => ((laws_toSnap.f a1_0 a1_1).bind fun bt384 => ((laws_toSnap.f a2_0 a2_1).bind fun bt386 => ((spec_DiffSnaps.f k bt378.1 bt378.2 bt384.1 bt384.2 bt386.1 bt386.2).bind fun bt388 => ((laws_toBase.f k l0_0 l0_1).bind fun bt392 => ((laws_toSnap.f a1_0 a1_1).bind fun bt399 => ((laws_toSnap.f a2_0 a2_1).bind fun bt401 => ((impl_DiffSnaps.f k bt392.1 bt392.2 bt399.1 bt399.2 bt401.1 bt401.2).bind fun bt403 => ((laws_eqEditS.f k bt403.1 bt388.1).bind fun t407 => (if t407 = true then (laws_FnExactDiffSnaps.j0 k bt388.1 bt388.2 bt403.1 bt403.2 (bt403.2 != bt388.2) l0_0 l0_1 a1_0 a1_1 a2_0 a2_1 bt392.1 bt392.2) else (laws_FnExactDiffSnaps.j0 k bt388.1 bt388.2 bt403.1 bt403.2 true l0_0 l0_1 a1_0 a1_1 a2_0 a2_1 bt392.1 bt392.2))))))))))))))))) = some true := h
 clear h
 replace H := Option.bind_eq_some_iff.mp H
 obtain ⟨t375, A40, H⟩ := H
 replace H : (if t375 < 0 then (some true) else ((laws_szSnap.f a1_0 a1_1 t375).bind fun t376 => (if t376 < 0 then (some true) else ((laws_szSnap.f a2_0 a2_1 t376).bind fun t377 => (if t377 < 0 then (some true) else ((laws_toBase.f k l0_0 l0_1).bind fun bt378 => ((laws_toSnap.f a1_0 a1_1).bind fun bt384 => ((laws_toSnap.f a2_0 a2_1).bind fun bt386 => ((spec_DiffSnaps.f k bt378.1 bt378.2 bt384.1 bt384.2 bt386.1 bt386.2).bind fun bt388 => ((laws_toBase.f k l0_0 l0_1).bind fun bt392 => ((laws_toSnap.f a1_0 a1_1).bind fun bt399 => ((laws_toSnap.f a2_0 a2_1).bind fun bt401 => ((impl_DiffSnaps.f k bt392.1 bt392.2 bt399.1 bt399.2 bt401.1 bt401.2).bind fun bt403 => ((laws_eqEditS.f k bt403.1 bt388.1).bind fun t407 => (if t407 = true then (laws_FnExactDiffSnaps.j0 k bt388.1 bt388.2 bt403.1 bt403.2 (bt403.2 != bt388.2) l0_0 l0_1 a1_0 a1_1 a2_0 a2_1 bt392.1 bt392.2) else (laws_FnExactDiffSnaps.j0 k bt388.1 bt388.2 bt403.1 bt403.2 true l0_0 l0_1 a1_0 a1_1 a2_0 a2_1 bt392.1 bt392.2)))))))))))))))) = some true := H
 have A4 := Aside0.mk A40
 clear A40
 by_cases c5 : t375 < 0
 ·rw [if_pos c5] at H
  have c5b0 : decide (t375 < 0) = true := decide_eq_true c5
  clear c5
  clear H
  go_enter Tryz.func3, Tryz.ntmps3
  go_wp2_with (first | ((with_reducible refine gate_dst (N := 3) rfl ?_); refine bE (N := 3) (cs := #[.slice A0_0 l0_0.length c0_0, .slice A0_1 l0_1.length c0_1]) (t := 25) ?_; intro gb372 hg w6 hbox hb; have n0_ := Aside0.mk (below_step (w := w) bW hb); have n1_ := Aside0.mk (hbox); have n2_ := Aside0.mk (gS (w := w) hg); have n3_ := n2_; clear HB; have HB := n0_; have BK372 := n1_; have GW372 := n2_; have GE372 := n3_; clear n0_ n1_ n2_ n3_; clear hb hbox hg) | ((with_reducible refine gate_dst (N := 4) rfl ?_); refine bE (N := 4) (cs := #[.string a1_0, .int .i64 a1_1]) (t := 27) ?_; intro gb373 hg w7 hbox hb; have n0_ := Aside0.mk (kb BK372 hb); have n1_ := Aside0.mk (below_step (w := w) bW hb); have n2_ := Aside0.mk (hbox); have n3_ := Aside0.mk (gS (w := w) hg); have n4_ := n3_; have n5_ := Aside0.mk (nL BK372 hg); have n6_ := Aside0.mk (nG BK372 hg); clear BK372; clear HB; have BK372 := n0_; have HB := n1_; have BK373 := n2_; have GW373 := n3_; have GE373 := n4_; have NB372_373 := n5_; have NB373_372 := n6_; clear n0_ n1_ n2_ n3_ n4_ n5_ n6_; clear hb hbox hg) | ((with_reducible refine gate_dst (N := 5) rfl ?_); refine bE (N := 5) (cs := #[.string a2_0, .int .i64 a2_1]) (t := 27) ?_; intro gb374 hg w8 hbox hb; have n0_ := Aside0.mk (kb BK372 hb); have n1_ := Aside0.mk (kb BK373 hb); have n2_ := Aside0.mk (below_step (w := w) bW hb); have n3_ := Aside0.mk (hbox); have n4_ := Aside0.mk (gS (w := w) hg); have n5_ := n4_; have n6_ := Aside0.mk (nL BK372 hg); have n7_ := Aside0.mk (nG BK372 hg); have n8_ := Aside0.mk (nL BK373 hg); have n9_ := Aside0.mk (nG BK373 hg); clear BK372; clear BK373; clear HB; have BK372 := n0_; have BK373 := n1_; have HB := n2_; have BK374 := n3_; have GW374 := n4_; have GE374 := n5_; have NB372_374 := n6_; have NB374_372 := n7_; have NB373_374 := n8_; have NB374_373 := n9_; clear n0_ n1_ n2_ n3_ n4_ n5_ n6_ n7_ n8_ n9_; clear hb hbox hg; have hnb9 := NB372_373.out; have hnc9 := NB373_372.out; have hnb10 := NB372_374.out; have hnc10 := NB374_372.out; obtain ⟨hcz11_0, hcz11_1⟩ := cz2 BK372; obtain ⟨hfz11_0, hfz11_1⟩ := fz2 BK372) | ((with_reducible refine gate_callee (f := 5) rfl ?_); refine goesL_ (some 20) rfl rfl Tryz.func5 (by kernel_rfl) rfl #[.agg #[.slice A0_0 l0_0.length c0_0, .slice A0_1 l0_1.length c0_1], .int .i64 1048576] rfl gA ?_; (with_reducible refine (laws_szBase.calls k _ _ l0_0 _ _ l0_1 1048576 t375 _ ?side1 ?side2 ?side3 ?side4 A4.out).mono ?_); (case side1 => exact cB HR0_0); (case side2 => exact HC0_0.out); (case side3 => exact cB HR0_1); (case side4 => exact HC0_1.out); rintro e w12 ⟨rfl, hb⟩; refine ⟨_, rfl, ?_⟩; have n0_ := Aside0.mk (kb BK372 hb); have n1_ := Aside0.mk (kb BK373 hb); have n2_ := Aside0.mk (kb BK374 hb); have n3_ := Aside0.mk (below_step (w := w) bW hb); clear BK372; clear BK373; clear BK374; clear HB; have BK372 := n0_; have BK373 := n1_; have BK374 := n2_; have HB := n3_; clear n0_ n1_ n2_ n3_; (try clear hb); (try clear hb2); (try clear hk); (try clear hi)))
  go_ret
  exact ⟨rE, bW⟩
 ·rw [if_neg c5] at H
  have c5b0 : decide (t375 < 0) = false := decide_eq_false c5
  clear c5
  replace H := Option.bind_eq_some_iff.mp H
  obtain ⟨t376, A130, H⟩ := H
  replace H : (if t376 < 0 then (some true) else ((laws_szSnap.f a2_0 a2_1 t376).bind fun t377 => (if t377 < 0 then (some true) else ((laws_toBase.f k l0_0 l0_1).bind fun bt378 => ((laws_toSnap.f a1_0 a1_1).bind fun bt384 => ((laws_toSnap.f a2_0 a2_1).bind fun bt386 => ((spec_DiffSnaps.f k bt378.1 bt378.2 bt384.1 bt384.2 bt386.1 bt386.2).bind fun bt388 => ((laws_toBase.f k l0_0 l0_1).bind fun bt392 => ((laws_toSnap.f a1_0 a1_1).bind fun bt399 => ((laws_toSnap.f a2_0 a2_1).bind fun bt401 => ((impl_DiffSnaps.f k bt392.1 bt392.2 bt399.1 bt399.2 bt401.1 bt401.2).bind fun bt403 => ((laws_eqEditS.f k bt403.1 bt388.1).bind fun t407 => (if t407 = true then (laws_FnExactDiffSnaps.j0 k bt388.1 bt388.2 bt403.1 bt403.2 (bt403.2 != bt388.2) l0_0 l0_1 a1_0 a1_1 a2_0 a2_1 bt392.1 bt392.2) else (laws_FnExactDiffSnaps.j0 k bt388.1 bt388.2 bt403.1 bt403.2 true l0_0 l0_1 a1_0 a1_1 a2_0 a2_1 bt392.1 bt392.2)))))))))))))) = some true := H
  have A13 := Aside0.mk A130
  clear A130
  by_cases c14 : t376 < 0
  ·rw [if_pos c14] at H
   have c14b0 : decide (t376 < 0) = true := decide_eq_true c14
   clear c14
   clear H
   go_enter Tryz.func3, Tryz.ntmps3
   go_wp2_with (first | ((with_reducible refine gate_dst (N := 3) rfl ?_); refine bE (N := 3) (cs := #[.slice A0_0 l0_0.length c0_0, .slice A0_1 l0_1.length c0_1]) (t := 25) ?_; intro gb372 hg w15 hbox hb; have n0_ := Aside0.mk (below_step (w := w) bW hb); have n1_ := Aside0.mk (hbox); have n2_ := Aside0.mk (gS (w := w) hg); have n3_ := n2_; clear HB; have HB := n0_; have BK372 := n1_; have GW372 := n2_; have GE372 := n3_; clear n0_ n1_ n2_ n3_; clear hb hbox hg) | ((with_reducible refine gate_dst (N := 4) rfl ?_); refine bE (N := 4) (cs := #[.string a1_0, .int .i64 a1_1]) (t := 27) ?_; intro gb373 hg w16 hbox hb; have n0_ := Aside0.mk (kb BK372 hb); have n1_ := Aside0.mk (below_step (w := w) bW hb); have n2_ := Aside0.mk (hbox); have n3_ := Aside0.mk (gS (w := w) hg); have n4_ := n3_; have n5_ := Aside0.mk (nL BK372 hg); have n6_ := Aside0.mk (nG BK372 hg); clear BK372; clear HB; have BK372 := n0_; have HB := n1_; have BK373 := n2_; have GW373 := n3_; have GE373 := n4_; have NB372_373 := n5_; have NB373_372 := n6_; clear n0_ n1_ n2_ n3_ n4_ n5_ n6_; clear hb hbox hg) | ((with_reducible refine gate_dst (N := 5) rfl ?_); refine bE (N := 5) (cs := #[.string a2_0, .int .i64 a2_1]) (t := 27) ?_; intro gb374 hg w17 hbox hb; have n0_ := Aside0.mk (kb BK372 hb); have n1_ := Aside0.mk (kb BK373 hb); have n2_ := Aside0.mk (below_step (w := w) bW hb); have n3_ := Aside0.mk (hbox); have n4_ := Aside0.mk (gS (w := w) hg); have n5_ := n4_; have n6_ := Aside0.mk (nL BK372 hg); have n7_ := Aside0.mk (nG BK372 hg); have n8_ := Aside0.mk (nL BK373 hg); have n9_ := Aside0.mk (nG BK373 hg); clear BK372; clear BK373; clear HB; have BK372 := n0_; have BK373 := n1_; have HB := n2_; have BK374 := n3_; have GW374 := n4_; have GE374 := n5_; have NB372_374 := n6_; have NB374_372 := n7_; have NB373_374 := n8_; have NB374_373 := n9_; clear n0_ n1_ n2_ n3_ n4_ n5_ n6_ n7_ n8_ n9_; clear hb hbox hg; have hnb18 := NB372_373.out; have hnc18 := NB373_372.out; have hnb19 := NB372_374.out; have hnc19 := NB374_372.out; obtain ⟨hcz20_0, hcz20_1⟩ := cz2 BK372; obtain ⟨hfz20_0, hfz20_1⟩ := fz2 BK372) | ((with_reducible refine gate_callee (f := 5) rfl ?_); refine goesL_ (some 20) rfl rfl Tryz.func5 (by kernel_rfl) rfl #[.agg #[.slice A0_0 l0_0.length c0_0, .slice A0_1 l0_1.length c0_1], .int .i64 1048576] rfl gA ?_; (with_reducible refine (laws_szBase.calls k _ _ l0_0 _ _ l0_1 1048576 t375 _ ?side1 ?side2 ?side3 ?side4 A4.out).mono ?_); (case side1 => exact cB HR0_0); (case side2 => exact HC0_0.out); (case side3 => exact cB HR0_1); (case side4 => exact HC0_1.out); rintro e w21 ⟨rfl, hb⟩; refine ⟨_, rfl, ?_⟩; have n0_ := Aside0.mk (kb BK372 hb); have n1_ := Aside0.mk (kb BK373 hb); have n2_ := Aside0.mk (kb BK374 hb); have n3_ := Aside0.mk (below_step (w := w) bW hb); clear BK372; clear BK373; clear BK374; clear HB; have BK372 := n0_; have BK373 := n1_; have BK374 := n2_; have HB := n3_; clear n0_ n1_ n2_ n3_; (try clear hb); (try clear hb2); (try clear hk); (try clear hi); have hnb22 := NB373_374.out; have hnc22 := NB374_373.out; obtain ⟨hcz23_0, hcz23_1⟩ := cz2 BK373; obtain ⟨hfz23_0, hfz23_1⟩ := fz2 BK373) | ((with_reducible refine gate_callee (f := 6) rfl ?_); refine goesL_ (some 25) rfl rfl Tryz.func6 (by kernel_rfl) rfl #[.agg #[.string a1_0, .int .i64 a1_1], .int .i64 t375] rfl gA ?_; (with_reducible refine (laws_szSnap.calls a1_0 a1_1 t375 t376 _ A13.out).mono ?_); rintro e w24 ⟨rfl, hb⟩; refine ⟨_, rfl, ?_⟩; have n0_ := Aside0.mk (kb BK372 hb); have n1_ := Aside0.mk (kb BK373 hb); have n2_ := Aside0.mk (kb BK374 hb); have n3_ := Aside0.mk (below_step (w := w) bW hb); clear BK372; clear BK373; clear BK374; clear HB; have BK372 := n0_; have BK373 := n1_; have BK374 := n2_; have HB := n3_; clear n0_ n1_ n2_ n3_; (try clear hb); (try clear hb2); (try clear hk); (try clear hi)))
   go_ret
   exact ⟨rE, bW⟩
  ·rw [if_neg c14] at H
   have c14b0 : decide (t376 < 0) = false := decide_eq_false c14
   clear c14
   replace H := Option.bind_eq_some_iff.mp H
   obtain ⟨t377, A250, H⟩ := H
   replace H : (if t377 < 0 then (some true) else ((laws_toBase.f k l0_0 l0_1).bind fun bt378 => ((laws_toSnap.f a1_0 a1_1).bind fun bt384 => ((laws_toSnap.f a2_0 a2_1).bind fun bt386 => ((spec_DiffSnaps.f k bt378.1 bt378.2 bt384.1 bt384.2 bt386.1 bt386.2).bind fun bt388 => ((laws_toBase.f k l0_0 l0_1).bind fun bt392 => ((laws_toSnap.f a1_0 a1_1).bind fun bt399 => ((laws_toSnap.f a2_0 a2_1).bind fun bt401 => ((impl_DiffSnaps.f k bt392.1 bt392.2 bt399.1 bt399.2 bt401.1 bt401.2).bind fun bt403 => ((laws_eqEditS.f k bt403.1 bt388.1).bind fun t407 => (if t407 = true then (laws_FnExactDiffSnaps.j0 k bt388.1 bt388.2 bt403.1 bt403.2 (bt403.2 != bt388.2) l0_0 l0_1 a1_0 a1_1 a2_0 a2_1 bt392.1 bt392.2) else (laws_FnExactDiffSnaps.j0 k bt388.1 bt388.2 bt403.1 bt403.2 true l0_0 l0_1 a1_0 a1_1 a2_0 a2_1 bt392.1 bt392.2)))))))))))) = some true := H
   have A25 := Aside0.mk A250
   clear A250
   by_cases c26 : t377 < 0
   ·rw [if_pos c26] at H
    have c26b0 : decide (t377 < 0) = true := decide_eq_true c26
    clear c26
    clear H
    go_enter Tryz.func3, Tryz.ntmps3
    go_wp2_with (first | ((with_reducible refine gate_dst (N := 3) rfl ?_); refine bE (N := 3) (cs := #[.slice A0_0 l0_0.length c0_0, .slice A0_1 l0_1.length c0_1]) (t := 25) ?_; intro gb372 hg w27 hbox hb; have n0_ := Aside0.mk (below_step (w := w) bW hb); have n1_ := Aside0.mk (hbox); have n2_ := Aside0.mk (gS (w := w) hg); have n3_ := n2_; clear HB; have HB := n0_; have BK372 := n1_; have GW372 := n2_; have GE372 := n3_; clear n0_ n1_ n2_ n3_; clear hb hbox hg) | ((with_reducible refine gate_dst (N := 4) rfl ?_); refine bE (N := 4) (cs := #[.string a1_0, .int .i64 a1_1]) (t := 27) ?_; intro gb373 hg w28 hbox hb; have n0_ := Aside0.mk (kb BK372 hb); have n1_ := Aside0.mk (below_step (w := w) bW hb); have n2_ := Aside0.mk (hbox); have n3_ := Aside0.mk (gS (w := w) hg); have n4_ := n3_; have n5_ := Aside0.mk (nL BK372 hg); have n6_ := Aside0.mk (nG BK372 hg); clear BK372; clear HB; have BK372 := n0_; have HB := n1_; have BK373 := n2_; have GW373 := n3_; have GE373 := n4_; have NB372_373 := n5_; have NB373_372 := n6_; clear n0_ n1_ n2_ n3_ n4_ n5_ n6_; clear hb hbox hg) | ((with_reducible refine gate_dst (N := 5) rfl ?_); refine bE (N := 5) (cs := #[.string a2_0, .int .i64 a2_1]) (t := 27) ?_; intro gb374 hg w29 hbox hb; have n0_ := Aside0.mk (kb BK372 hb); have n1_ := Aside0.mk (kb BK373 hb); have n2_ := Aside0.mk (below_step (w := w) bW hb); have n3_ := Aside0.mk (hbox); have n4_ := Aside0.mk (gS (w := w) hg); have n5_ := n4_; have n6_ := Aside0.mk (nL BK372 hg); have n7_ := Aside0.mk (nG BK372 hg); have n8_ := Aside0.mk (nL BK373 hg); have n9_ := Aside0.mk (nG BK373 hg); clear BK372; clear BK373; clear HB; have BK372 := n0_; have BK373 := n1_; have HB := n2_; have BK374 := n3_; have GW374 := n4_; have GE374 := n5_; have NB372_374 := n6_; have NB374_372 := n7_; have NB373_374 := n8_; have NB374_373 := n9_; clear n0_ n1_ n2_ n3_ n4_ n5_ n6_ n7_ n8_ n9_; clear hb hbox hg; have hnb30 := NB372_373.out; have hnc30 := NB373_372.out; have hnb31 := NB372_374.out; have hnc31 := NB374_372.out; obtain ⟨hcz32_0, hcz32_1⟩ := cz2 BK372; obtain ⟨hfz32_0, hfz32_1⟩ := fz2 BK372) | ((with_reducible refine gate_callee (f := 5) rfl ?_); refine goesL_ (some 20) rfl rfl Tryz.func5 (by kernel_rfl) rfl #[.agg #[.slice A0_0 l0_0.length c0_0, .slice A0_1 l0_1.length c0_1], .int .i64 1048576] rfl gA ?_; (with_reducible refine (laws_szBase.calls k _ _ l0_0 _ _ l0_1 1048576 t375 _ ?side1 ?side2 ?side3 ?side4 A4.out).mono ?_); (case side1 => exact cB HR0_0); (case side2 => exact HC0_0.out); (case side3 => exact cB HR0_1); (case side4 => exact HC0_1.out); rintro e w33 ⟨rfl, hb⟩; refine ⟨_, rfl, ?_⟩; have n0_ := Aside0.mk (kb BK372 hb); have n1_ := Aside0.mk (kb BK373 hb); have n2_ := Aside0.mk (kb BK374 hb); have n3_ := Aside0.mk (below_step (w := w) bW hb); clear BK372; clear BK373; clear BK374; clear HB; have BK372 := n0_; have BK373 := n1_; have BK374 := n2_; have HB := n3_; clear n0_ n1_ n2_ n3_; (try clear hb); (try clear hb2); (try clear hk); (try clear hi); have hnb34 := NB373_374.out; have hnc34 := NB374_373.out; obtain ⟨hcz35_0, hcz35_1⟩ := cz2 BK373; obtain ⟨hfz35_0, hfz35_1⟩ := fz2 BK373) | ((with_reducible refine gate_callee (f := 6) rfl ?_); refine goesL_ (some 25) rfl rfl Tryz.func6 (by kernel_rfl) rfl #[.agg #[.string a1_0, .int .i64 a1_1], .int .i64 t375] rfl gA ?_; (with_reducible refine (laws_szSnap.calls a1_0 a1_1 t375 t376 _ A13.out).mono ?_); rintro e w36 ⟨rfl, hb⟩; refine ⟨_, rfl, ?_⟩; have n0_ := Aside0.mk (kb BK372 hb); have n1_ := Aside0.mk (kb BK373 hb); have n2_ := Aside0.mk (kb BK374 hb); have n3_ := Aside0.mk (below_step (w := w) bW hb); clear BK372; clear BK373; clear BK374; clear HB; have BK372 := n0_; have BK373 := n1_; have BK374 := n2_; have HB := n3_; clear n0_ n1_ n2_ n3_; (try clear hb); (try clear hb2); (try clear hk); (try clear hi); obtain ⟨hcz37_0, hcz37_1⟩ := cz2 BK374; obtain ⟨hfz37_0, hfz37_1⟩ := fz2 BK374) | ((with_reducible refine gate_callee (f := 6) rfl ?_); refine goesL_ (some 30) rfl rfl Tryz.func6 (by kernel_rfl) rfl #[.agg #[.string a2_0, .int .i64 a2_1], .int .i64 t376] rfl gA ?_; (with_reducible refine (laws_szSnap.calls a2_0 a2_1 t376 t377 _ A25.out).mono ?_); rintro e w38 ⟨rfl, hb⟩; refine ⟨_, rfl, ?_⟩; have n0_ := Aside0.mk (kb BK372 hb); have n1_ := Aside0.mk (kb BK373 hb); have n2_ := Aside0.mk (kb BK374 hb); have n3_ := Aside0.mk (below_step (w := w) bW hb); clear BK372; clear BK373; clear BK374; clear HB; have BK372 := n0_; have BK373 := n1_; have BK374 := n2_; have HB := n3_; clear n0_ n1_ n2_ n3_; (try clear hb); (try clear hb2); (try clear hk); (try clear hi)))
    go_ret
    exact ⟨rE, bW⟩
   ·rw [if_neg c26] at H
    have c26b0 : decide (t377 < 0) = false := decide_eq_false c26
    clear c26
    replace H := Option.bind_eq_some_iff.mp H
    obtain ⟨⟨t378, t381⟩, A390, H⟩ := H
    replace H : ((laws_toSnap.f a1_0 a1_1).bind fun bt384 => ((laws_toSnap.f a2_0 a2_1).bind fun bt386 => ((spec_DiffSnaps.f k t378 t381 bt384.1 bt384.2 bt386.1 bt386.2).bind fun bt388 => ((laws_toBase.f k l0_0 l0_1).bind fun bt392 => ((laws_toSnap.f a1_0 a1_1).bind fun bt399 => ((laws_toSnap.f a2_0 a2_1).bind fun bt401 => ((impl_DiffSnaps.f k bt392.1 bt392.2 bt399.1 bt399.2 bt401.1 bt401.2).bind fun bt403 => ((laws_eqEditS.f k bt403.1 bt388.1).bind fun t407 => (if t407 = true then (laws_FnExactDiffSnaps.j0 k bt388.1 bt388.2 bt403.1 bt403.2 (bt403.2 != bt388.2) l0_0 l0_1 a1_0 a1_1 a2_0 a2_1 bt392.1 bt392.2) else (laws_FnExactDiffSnaps.j0 k bt388.1 bt388.2 bt403.1 bt403.2 true l0_0 l0_1 a1_0 a1_1 a2_0 a2_1 bt392.1 bt392.2)))))))))) = some true := H
    have A39 := Aside0.mk A390
    clear A390
    replace H := Option.bind_eq_some_iff.mp H
    obtain ⟨⟨t384, t385⟩, A400, H⟩ := H
    replace H : ((laws_toSnap.f a2_0 a2_1).bind fun bt386 => ((spec_DiffSnaps.f k t378 t381 t384 t385 bt386.1 bt386.2).bind fun bt388 => ((laws_toBase.f k l0_0 l0_1).bind fun bt392 => ((laws_toSnap.f a1_0 a1_1).bind fun bt399 => ((laws_toSnap.f a2_0 a2_1).bind fun bt401 => ((impl_DiffSnaps.f k bt392.1 bt392.2 bt399.1 bt399.2 bt401.1 bt401.2).bind fun bt403 => ((laws_eqEditS.f k bt403.1 bt388.1).bind fun t407 => (if t407 = true then (laws_FnExactDiffSnaps.j0 k bt388.1 bt388.2 bt403.1 bt403.2 (bt403.2 != bt388.2) l0_0 l0_1 a1_0 a1_1 a2_0 a2_1 bt392.1 bt392.2) else (laws_FnExactDiffSnaps.j0 k bt388.1 bt388.2 bt403.1 bt403.2 true l0_0 l0_1 a1_0 a1_1 a2_0 a2_1 bt392.1 bt392.2))))))))) = some true := H
    have A40 := Aside0.mk A400
    clear A400
    replace H := Option.bind_eq_some_iff.mp H
    obtain ⟨⟨t386, t387⟩, A410, H⟩ := H
    replace H : ((spec_DiffSnaps.f k t378 t381 t384 t385 t386 t387).bind fun bt388 => ((laws_toBase.f k l0_0 l0_1).bind fun bt392 => ((laws_toSnap.f a1_0 a1_1).bind fun bt399 => ((laws_toSnap.f a2_0 a2_1).bind fun bt401 => ((impl_DiffSnaps.f k bt392.1 bt392.2 bt399.1 bt399.2 bt401.1 bt401.2).bind fun bt403 => ((laws_eqEditS.f k bt403.1 bt388.1).bind fun t407 => (if t407 = true then (laws_FnExactDiffSnaps.j0 k bt388.1 bt388.2 bt403.1 bt403.2 (bt403.2 != bt388.2) l0_0 l0_1 a1_0 a1_1 a2_0 a2_1 bt392.1 bt392.2) else (laws_FnExactDiffSnaps.j0 k bt388.1 bt388.2 bt403.1 bt403.2 true l0_0 l0_1 a1_0 a1_1 a2_0 a2_1 bt392.1 bt392.2)))))))) = some true := H
    have A41 := Aside0.mk A410
    clear A410
    replace H := Option.bind_eq_some_iff.mp H
    obtain ⟨⟨t388, t391⟩, A420, H⟩ := H
    replace H : ((laws_toBase.f k l0_0 l0_1).bind fun bt392 => ((laws_toSnap.f a1_0 a1_1).bind fun bt399 => ((laws_toSnap.f a2_0 a2_1).bind fun bt401 => ((impl_DiffSnaps.f k bt392.1 bt392.2 bt399.1 bt399.2 bt401.1 bt401.2).bind fun bt403 => ((laws_eqEditS.f k bt403.1 t388).bind fun t407 => (if t407 = true then (laws_FnExactDiffSnaps.j0 k t388 t391 bt403.1 bt403.2 (bt403.2 != t391) l0_0 l0_1 a1_0 a1_1 a2_0 a2_1 bt392.1 bt392.2) else (laws_FnExactDiffSnaps.j0 k t388 t391 bt403.1 bt403.2 true l0_0 l0_1 a1_0 a1_1 a2_0 a2_1 bt392.1 bt392.2))))))) = some true := H
    have A42 := Aside0.mk A420
    clear A420
    replace H := Option.bind_eq_some_iff.mp H
    obtain ⟨⟨t392, t395⟩, A430, H⟩ := H
    replace H : ((laws_toSnap.f a1_0 a1_1).bind fun bt399 => ((laws_toSnap.f a2_0 a2_1).bind fun bt401 => ((impl_DiffSnaps.f k t392 t395 bt399.1 bt399.2 bt401.1 bt401.2).bind fun bt403 => ((laws_eqEditS.f k bt403.1 t388).bind fun t407 => (if t407 = true then (laws_FnExactDiffSnaps.j0 k t388 t391 bt403.1 bt403.2 (bt403.2 != t391) l0_0 l0_1 a1_0 a1_1 a2_0 a2_1 t392 t395) else (laws_FnExactDiffSnaps.j0 k t388 t391 bt403.1 bt403.2 true l0_0 l0_1 a1_0 a1_1 a2_0 a2_1 t392 t395)))))) = some true := H
    have A43 := Aside0.mk A430
    clear A430
    replace H := Option.bind_eq_some_iff.mp H
    obtain ⟨⟨t399, t400⟩, A440, H⟩ := H
    replace H : ((laws_toSnap.f a2_0 a2_1).bind fun bt401 => ((impl_DiffSnaps.f k t392 t395 t399 t400 bt401.1 bt401.2).bind fun bt403 => ((laws_eqEditS.f k bt403.1 t388).bind fun t407 => (if t407 = true then (laws_FnExactDiffSnaps.j0 k t388 t391 bt403.1 bt403.2 (bt403.2 != t391) l0_0 l0_1 a1_0 a1_1 a2_0 a2_1 t392 t395) else (laws_FnExactDiffSnaps.j0 k t388 t391 bt403.1 bt403.2 true l0_0 l0_1 a1_0 a1_1 a2_0 a2_1 t392 t395))))) = some true := H
    have A44 := Aside0.mk A440
    clear A440
    replace H := Option.bind_eq_some_iff.mp H
    obtain ⟨⟨t401, t402⟩, A450, H⟩ := H
    replace H : ((impl_DiffSnaps.f k t392 t395 t399 t400 t401 t402).bind fun bt403 => ((laws_eqEditS.f k bt403.1 t388).bind fun t407 => (if t407 = true then (laws_FnExactDiffSnaps.j0 k t388 t391 bt403.1 bt403.2 (bt403.2 != t391) l0_0 l0_1 a1_0 a1_1 a2_0 a2_1 t392 t395) else (laws_FnExactDiffSnaps.j0 k t388 t391 bt403.1 bt403.2 true l0_0 l0_1 a1_0 a1_1 a2_0 a2_1 t392 t395)))) = some true := H
    have A45 := Aside0.mk A450
    clear A450
    replace H := Option.bind_eq_some_iff.mp H
    obtain ⟨⟨t403, t406⟩, A460, H⟩ := H
    replace H : ((laws_eqEditS.f k t403 t388).bind fun t407 => (if t407 = true then (laws_FnExactDiffSnaps.j0 k t388 t391 t403 t406 (t406 != t391) l0_0 l0_1 a1_0 a1_1 a2_0 a2_1 t392 t395) else (laws_FnExactDiffSnaps.j0 k t388 t391 t403 t406 true l0_0 l0_1 a1_0 a1_1 a2_0 a2_1 t392 t395))) = some true := H
    have A46 := Aside0.mk A460
    clear A460
    have HC47 := Aside0.mk H
    clear H
    go_enter Tryz.func3, Tryz.ntmps3
    try go_wp2_with (first | ((with_reducible refine gate_dst (N := 3) rfl ?_); refine bE (N := 3) (cs := #[.slice A0_0 l0_0.length c0_0, .slice A0_1 l0_1.length c0_1]) (t := 25) ?_; intro gb372 hg w48 hbox hb; have n0_ := Aside0.mk (below_step (w := w) bW hb); have n1_ := Aside0.mk (hbox); have n2_ := Aside0.mk (gS (w := w) hg); have n3_ := n2_; clear HB; have HB := n0_; have BK372 := n1_; have GW372 := n2_; have GE372 := n3_; clear n0_ n1_ n2_ n3_; clear hb hbox hg) | ((with_reducible refine gate_dst (N := 4) rfl ?_); refine bE (N := 4) (cs := #[.string a1_0, .int .i64 a1_1]) (t := 27) ?_; intro gb373 hg w49 hbox hb; have n0_ := Aside0.mk (kb BK372 hb); have n1_ := Aside0.mk (below_step (w := w) bW hb); have n2_ := Aside0.mk (hbox); have n3_ := Aside0.mk (gS (w := w) hg); have n4_ := n3_; have n5_ := Aside0.mk (nL BK372 hg); have n6_ := Aside0.mk (nG BK372 hg); clear BK372; clear HB; have BK372 := n0_; have HB := n1_; have BK373 := n2_; have GW373 := n3_; have GE373 := n4_; have NB372_373 := n5_; have NB373_372 := n6_; clear n0_ n1_ n2_ n3_ n4_ n5_ n6_; clear hb hbox hg) | ((with_reducible refine gate_dst (N := 5) rfl ?_); refine bE (N := 5) (cs := #[.string a2_0, .int .i64 a2_1]) (t := 27) ?_; intro gb374 hg w50 hbox hb; have n0_ := Aside0.mk (kb BK372 hb); have n1_ := Aside0.mk (kb BK373 hb); have n2_ := Aside0.mk (below_step (w := w) bW hb); have n3_ := Aside0.mk (hbox); have n4_ := Aside0.mk (gS (w := w) hg); have n5_ := n4_; have n6_ := Aside0.mk (nL BK372 hg); have n7_ := Aside0.mk (nG BK372 hg); have n8_ := Aside0.mk (nL BK373 hg); have n9_ := Aside0.mk (nG BK373 hg); clear BK372; clear BK373; clear HB; have BK372 := n0_; have BK373 := n1_; have HB := n2_; have BK374 := n3_; have GW374 := n4_; have GE374 := n5_; have NB372_374 := n6_; have NB374_372 := n7_; have NB373_374 := n8_; have NB374_373 := n9_; clear n0_ n1_ n2_ n3_ n4_ n5_ n6_ n7_ n8_ n9_; clear hb hbox hg; have hnb51 := NB372_373.out; have hnc51 := NB373_372.out; have hnb52 := NB372_374.out; have hnc52 := NB374_372.out; obtain ⟨hcz53_0, hcz53_1⟩ := cz2 BK372; obtain ⟨hfz53_0, hfz53_1⟩ := fz2 BK372) | ((with_reducible refine gate_callee (f := 5) rfl ?_); refine goesL_ (some 20) rfl rfl Tryz.func5 (by kernel_rfl) rfl #[.agg #[.slice A0_0 l0_0.length c0_0, .slice A0_1 l0_1.length c0_1], .int .i64 1048576] rfl gA ?_; (with_reducible refine (laws_szBase.calls k _ _ l0_0 _ _ l0_1 1048576 t375 _ ?side1 ?side2 ?side3 ?side4 A4.out).mono ?_); (case side1 => exact cB HR0_0); (case side2 => exact HC0_0.out); (case side3 => exact cB HR0_1); (case side4 => exact HC0_1.out); rintro e w54 ⟨rfl, hb⟩; refine ⟨_, rfl, ?_⟩; have n0_ := Aside0.mk (kb BK372 hb); have n1_ := Aside0.mk (kb BK373 hb); have n2_ := Aside0.mk (kb BK374 hb); have n3_ := Aside0.mk (below_step (w := w) bW hb); clear BK372; clear BK373; clear BK374; clear HB; have BK372 := n0_; have BK373 := n1_; have BK374 := n2_; have HB := n3_; clear n0_ n1_ n2_ n3_; (try clear hb); (try clear hb2); (try clear hk); (try clear hi); have hnb55 := NB373_374.out; have hnc55 := NB374_373.out; obtain ⟨hcz56_0, hcz56_1⟩ := cz2 BK373; obtain ⟨hfz56_0, hfz56_1⟩ := fz2 BK373) | ((with_reducible refine gate_callee (f := 6) rfl ?_); refine goesL_ (some 25) rfl rfl Tryz.func6 (by kernel_rfl) rfl #[.agg #[.string a1_0, .int .i64 a1_1], .int .i64 t375] rfl gA ?_; (with_reducible refine (laws_szSnap.calls a1_0 a1_1 t375 t376 _ A13.out).mono ?_); rintro e w57 ⟨rfl, hb⟩; refine ⟨_, rfl, ?_⟩; have n0_ := Aside0.mk (kb BK372 hb); have n1_ := Aside0.mk (kb BK373 hb); have n2_ := Aside0.mk (kb BK374 hb); have n3_ := Aside0.mk (below_step (w := w) bW hb); clear BK372; clear BK373; clear BK374; clear HB; have BK372 := n0_; have BK373 := n1_; have BK374 := n2_; have HB := n3_; clear n0_ n1_ n2_ n3_; (try clear hb); (try clear hb2); (try clear hk); (try clear hi); obtain ⟨hcz58_0, hcz58_1⟩ := cz2 BK374; obtain ⟨hfz58_0, hfz58_1⟩ := fz2 BK374) | ((with_reducible refine gate_callee (f := 6) rfl ?_); refine goesL_ (some 30) rfl rfl Tryz.func6 (by kernel_rfl) rfl #[.agg #[.string a2_0, .int .i64 a2_1], .int .i64 t376] rfl gA ?_; (with_reducible refine (laws_szSnap.calls a2_0 a2_1 t376 t377 _ A25.out).mono ?_); rintro e w59 ⟨rfl, hb⟩; refine ⟨_, rfl, ?_⟩; have n0_ := Aside0.mk (kb BK372 hb); have n1_ := Aside0.mk (kb BK373 hb); have n2_ := Aside0.mk (kb BK374 hb); have n3_ := Aside0.mk (below_step (w := w) bW hb); clear BK372; clear BK373; clear BK374; clear HB; have BK372 := n0_; have BK373 := n1_; have BK374 := n2_; have HB := n3_; clear n0_ n1_ n2_ n3_; (try clear hb); (try clear hb2); (try clear hk); (try clear hi)))
    have n0_ := Aside0.mk (blk_drew BK372.out)
    have n1_ := Aside0.mk (blk_drew BK373.out)
    have n2_ := Aside0.mk (blk_drew BK374.out)
    have n3_ := Aside0.mk (below_drew1 HB.out)
    clear BK372
    clear BK373
    clear BK374
    clear HB
    have BK372 := n0_
    have BK373 := n1_
    have BK374 := n2_
    have HB := n3_
    clear n0_ n1_ n2_ n3_
    refine start_ (n := 12) (S := fun w' => w'.cell? ⟨gb372, 0, none⟩ = some (.slice A0_0 l0_0.length c0_0) ∧ w'.cell? ⟨gb372, 1, none⟩ = some (.slice A0_1 l0_1.length c0_1) ∧ w'.cell? ⟨gb373, 0, none⟩ = some (.string a1_0) ∧ w'.cell? ⟨gb373, 1, none⟩ = some (.int .i64 a1_1) ∧ w'.cell? ⟨gb374, 0, none⟩ = some (.string a2_0) ∧ w'.cell? ⟨gb374, 1, none⟩ = some (.int .i64 a2_1)) (ds := []) #[false, false, false, false, false, false, false, false, false, false, false, false] (by kernel_rfl) rfl rfl ⟨(blk_cell BK372.out 0).trans rfl, (blk_cell BK372.out 1).trans rfl, (blk_cell BK373.out 0).trans rfl, (blk_cell BK373.out 1).trans rfl, (blk_cell BK374.out 0).trans rfl, (blk_cell BK374.out 1).trans rfl⟩ (fun hHeld => ?_); refine with_tabW laws_FnExactDiffSnaps.tab11 laws_FnExactDiffSnaps.bits11 (fun HT_ HW_ => ?_)
    generalize w59.drew = w60 at BK372 BK373 BK374 HB hHeld ⊢
    refine take_ (i := 0) (N := some 34) (v := ?_) (a' := ?_) #[true, false, false, false, false, false, false, false, false, false, false, false] rfl rfl (take_ofW HT_.out HW_.out (by kernel_rfl)) (fun _ _ _ h => h) (Or.inl ⟨by rfl, ?_⟩) hHeld ?_ ?_; rotate_left; (focus rintro w' ⟨s0, s1, s2, s3, s4, s5⟩; go_simp; with_reducible rfl); rotate_left; (focus simp only [pt, i64_w, i32_w]; rfl)
    refine take_ (i := 2) (N := some 36) (v := ?_) (a' := ?_) #[true, false, true, false, false, false, false, false, false, false, false, false] rfl rfl (take_ofW HT_.out HW_.out (by kernel_rfl)) (fun _ _ _ h => h) (Or.inl ⟨by rfl, ?_⟩) hHeld ?_ ?_; rotate_left; (focus rintro w' ⟨s0, s1, s2, s3, s4, s5⟩; go_simp; with_reducible rfl); rotate_left; (focus simp only [pt, i64_w, i32_w]; rfl)
    refine take_ (i := 4) (N := some 38) (v := ?_) (a' := ?_) #[true, false, true, false, true, false, false, false, false, false, false, false] rfl rfl (take_ofW HT_.out HW_.out (by kernel_rfl)) (fun _ _ _ h => h) (Or.inl ⟨by rfl, ?_⟩) hHeld ?_ ?_; rotate_left; (focus rintro w' ⟨s0, s1, s2, s3, s4, s5⟩; go_simp; with_reducible rfl); rotate_left; (focus simp only [pt, i64_w, i32_w]; rfl)
    refine one_ (i := 1) (N := some 35) #[true, true, true, false, true, false, false, false, false, false, false, false] rfl rfl (one_of HT_.out (by kernel_rfl)) (by decide) (fun K hK => ?_)
    refine goes_ Tryz.func8 (by kernel_rfl) rfl #[.agg #[.slice A0_0 l0_0.length c0_0, .slice A0_1 l0_1.length c0_1]] (by rfl) rfl rfl gA ?_
    with_reducible refine (laws_toBase.calls k _ _ l0_0 _ _ l0_1 t378 t381 _ ?side1 ?side2 ?side3 ?side4 A39.out).mono ?_
    (case side1 => exact cB HR0_0)
    (case side2 => exact HC0_0.out)
    (case side3 => exact cB HR0_1)
    (case side4 => exact HC0_1.out)
    rintro e w61 ⟨v379, v382, rfl, ho0, ho1, hb⟩
    refine ⟨_, rfl, ?_⟩
    have n0_ := Aside0.mk (Kd.S_lower ho0 (below_size (w := w) bW))
    have n1_ := Aside0.mk (Kd.R_lower ho1 (below_size (w := w) bW))
    have n2_ := Aside0.mk (kb BK372 hb)
    have n3_ := Aside0.mk (kb BK373 hb)
    have n4_ := Aside0.mk (kb BK374 hb)
    have n5_ := Aside0.mk (below_step (w := w) bW hb)
    clear BK372
    clear BK373
    clear BK374
    clear HB
    have HO380 := n0_
    have HO383 := n1_
    have BK372 := n2_
    have BK373 := n3_
    have BK374 := n4_
    have HB := n5_
    clear n0_ n1_ n2_ n3_ n4_ n5_
    (try clear hb)
    (try clear hb2)
    (try clear hk)
    (try clear hi)
    (try clear ho0)
    (try clear ho1)
    refine hK.out _ _ ⟨(blk_cell BK372.out 0).trans rfl, (blk_cell BK372.out 1).trans rfl, (blk_cell BK373.out 0).trans rfl, (blk_cell BK373.out 1).trans rfl, (blk_cell BK374.out 0).trans rfl, (blk_cell BK374.out 1).trans rfl⟩ (fun hHeld => ?_)
    clear hK K
    refine norm_ (a' := ?_) ?_ ?_
    rotate_left
    ·show Act.put _ (some 35) _ = _
     simp only [Act.put, List.setIfInBounds_toArray, List.set_cons_zero, List.set_cons_succ, i64_w, i32_w]
     rfl
    refine one_ (i := 3) (N := some 37) #[true, true, true, true, true, false, false, false, false, false, false, false] rfl rfl (one_of HT_.out (by kernel_rfl)) (by decide) (fun K hK => ?_)
    refine goes_ Tryz.func9 (by kernel_rfl) rfl #[.agg #[.string a1_0, .int .i64 a1_1]] (by rfl) rfl rfl gA ?_
    with_reducible refine (laws_toSnap.calls a1_0 a1_1 t384 t385 _ A40.out).mono ?_
    rintro e w62 ⟨rfl, hb⟩
    refine ⟨_, rfl, ?_⟩
    have n0_ := Aside0.mk (Kd.S_below (pS HO380) hb)
    have n1_ := Aside0.mk (Kd.R_below (pR HO383) hb)
    have n2_ := Aside0.mk (kb BK372 hb)
    have n3_ := Aside0.mk (kb BK373 hb)
    have n4_ := Aside0.mk (kb BK374 hb)
    have n5_ := Aside0.mk (below_step (w := w) bW hb)
    clear HO380
    clear HO383
    clear BK372
    clear BK373
    clear BK374
    clear HB
    have HO380 := n0_
    have HO383 := n1_
    have BK372 := n2_
    have BK373 := n3_
    have BK374 := n4_
    have HB := n5_
    clear n0_ n1_ n2_ n3_ n4_ n5_
    (try clear hb)
    (try clear hb2)
    (try clear hk)
    (try clear hi)
    refine hK.out _ _ ⟨(blk_cell BK372.out 0).trans rfl, (blk_cell BK372.out 1).trans rfl, (blk_cell BK373.out 0).trans rfl, (blk_cell BK373.out 1).trans rfl, (blk_cell BK374.out 0).trans rfl, (blk_cell BK374.out 1).trans rfl⟩ (fun hHeld => ?_)
    clear hK K
    refine norm_ (a' := ?_) ?_ ?_
    rotate_left
    ·show Act.put _ (some 37) _ = _
     simp only [Act.put, List.setIfInBounds_toArray, List.set_cons_zero, List.set_cons_succ, i64_w, i32_w]
     rfl
    refine one_ (i := 5) (N := some 39) #[true, true, true, true, true, true, false, false, false, false, false, false] rfl rfl (one_of HT_.out (by kernel_rfl)) (by decide) (fun K hK => ?_)
    refine goes_ Tryz.func9 (by kernel_rfl) rfl #[.agg #[.string a2_0, .int .i64 a2_1]] (by rfl) rfl rfl gA ?_
    with_reducible refine (laws_toSnap.calls a2_0 a2_1 t386 t387 _ A41.out).mono ?_
    rintro e w63 ⟨rfl, hb⟩
    refine ⟨_, rfl, ?_⟩
    have n0_ := Aside0.mk (Kd.S_below (pS HO380) hb)
    have n1_ := Aside0.mk (Kd.R_below (pR HO383) hb)
    have n2_ := Aside0.mk (kb BK372 hb)
    have n3_ := Aside0.mk (kb BK373 hb)
    have n4_ := Aside0.mk (kb BK374 hb)
    have n5_ := Aside0.mk (below_step (w := w) bW hb)
    clear HO380
    clear HO383
    clear BK372
    clear BK373
    clear BK374
    clear HB
    have HO380 := n0_
    have HO383 := n1_
    have BK372 := n2_
    have BK373 := n3_
    have BK374 := n4_
    have HB := n5_
    clear n0_ n1_ n2_ n3_ n4_ n5_
    (try clear hb)
    (try clear hb2)
    (try clear hk)
    (try clear hi)
    obtain ⟨Ao64, co64, eo64⟩ := Kd.S_slice HO380.out
    (first | subst eo64 | (injection eo64 with f1_ f2_ f3_; have f4_ := f1_.symm; have f5_ := f3_.symm; clear f1_ f2_ f3_; subst f4_; subst f5_))
    obtain ⟨Ao65, co65, eo65⟩ := Kd.R_slice HO383.out
    (first | subst eo65 | (injection eo65 with f1_ f2_ f3_; have f4_ := f1_.symm; have f5_ := f3_.symm; clear f1_ f2_ f3_; subst f4_; subst f5_))
    refine hK.out _ _ ⟨(blk_cell BK372.out 0).trans rfl, (blk_cell BK372.out 1).trans rfl, (blk_cell BK373.out 0).trans rfl, (blk_cell BK373.out 1).trans rfl, (blk_cell BK374.out 0).trans rfl, (blk_cell BK374.out 1).trans rfl⟩ (fun hHeld => ?_)
    clear hK K
    refine norm_ (a' := ?_) ?_ ?_
    rotate_left
    ·show Act.put _ (some 39) _ = _
     simp only [Act.put, List.setIfInBounds_toArray, List.set_cons_zero, List.set_cons_succ, i64_w, i32_w]
     rfl
    refine one_ (i := 6) (N := some 40) #[true, true, true, true, true, true, true, false, false, false, false, false] rfl rfl (one_of HT_.out (by kernel_rfl)) (by decide) (fun K hK => ?_)
    refine goes_ Tryz.func7 (by kernel_rfl) rfl #[.agg #[.slice Ao64 t378.length co64, .slice Ao65 t381.length co65], .agg #[.string t384, .int .i64 t385], .agg #[.string t386, .int .i64 t387]] (by rfl) rfl rfl gA ?_
    with_reducible refine (spec_DiffSnaps.calls k _ _ t378 _ _ t381 t384 t385 t386 t387 t388 t391 _ ?side1 ?side2 ?side3 ?side4 A42.out).mono ?_
    (case side1 => repeat (first | exact (Kd.S_reads' HO380.out).2.2 | (with_reducible refine Kd.C_alloc ?_ _) | (with_reducible refine Kd.C_drewN ?_ _) | (with_reducible refine Kd.C_drew ?_)))
    (case side2 => exact (Kd.S_reads' HO380.out).2.1)
    (case side3 => repeat (first | exact (Kd.R_reads' HO383.out).2.2 | (with_reducible refine Kd.C_alloc ?_ _) | (with_reducible refine Kd.C_drewN ?_ _) | (with_reducible refine Kd.C_drew ?_)))
    (case side4 => exact (Kd.R_reads' HO383.out).2.1)
    rintro e w66 ⟨v389, rfl, ho0, hb⟩
    refine ⟨_, rfl, ?_⟩
    have n0_ := Aside0.mk (Kd.S_below (pS HO380) hb)
    have n1_ := Aside0.mk (Kd.R_below (pR HO383) hb)
    have n2_ := Aside0.mk (Kd.R_lower ho0 (below_size (w := w) bW))
    have n3_ := Aside0.mk (kb BK372 hb)
    have n4_ := Aside0.mk (kb BK373 hb)
    have n5_ := Aside0.mk (kb BK374 hb)
    have n6_ := Aside0.mk (below_step (w := w) bW hb)
    clear HO380
    clear HO383
    clear BK372
    clear BK373
    clear BK374
    clear HB
    have HO380 := n0_
    have HO383 := n1_
    have HO390 := n2_
    have BK372 := n3_
    have BK373 := n4_
    have BK374 := n5_
    have HB := n6_
    clear n0_ n1_ n2_ n3_ n4_ n5_ n6_
    (try clear hb)
    (try clear hb2)
    (try clear hk)
    (try clear hi)
    (try clear ho0)
    refine hK.out _ _ ⟨(blk_cell BK372.out 0).trans rfl, (blk_cell BK372.out 1).trans rfl, (blk_cell BK373.out 0).trans rfl, (blk_cell BK373.out 1).trans rfl, (blk_cell BK374.out 0).trans rfl, (blk_cell BK374.out 1).trans rfl⟩ (fun hHeld => ?_)
    clear hK K
    refine norm_ (a' := ?_) ?_ ?_
    rotate_left
    ·show Act.put _ (some 40) _ = _
     simp only [Act.put, List.setIfInBounds_toArray, List.set_cons_zero, List.set_cons_succ, i64_w, i32_w]
     rfl
    refine pure_ (i := 7) (N := some 33) (v := ?_) (a' := ?_) #[true, true, true, true, true, true, true, true, false, false, false, false] rfl rfl (any_of HT_.out (by kernel_rfl)) (fun _ _ _ h => h) (Or.inl ⟨by rfl, ?_⟩) ?_ ?_; rotate_left; (focus intro w'; go_simp; with_reducible rfl); rotate_left; (focus simp only [pt, i64_w, i32_w]; rfl)
    refine pure_ (i := 8) (N := some 41) (v := ?_) (a' := ?_) #[true, true, true, true, true, true, true, true, true, false, false, false] rfl rfl (any_of HT_.out (by kernel_rfl)) (fun _ _ _ h => h) (Or.inl ⟨by rfl, ?_⟩) ?_ ?_; rotate_left; (focus intro w'; go_simp; with_reducible rfl); rotate_left; (focus simp only [pt, i64_w, i32_w]; rfl)
    refine pure_ (i := 9) (N := some 42) (v := ?_) (a' := ?_) #[true, true, true, true, true, true, true, true, true, true, false, false] rfl rfl (any_of HT_.out (by kernel_rfl)) (fun _ _ _ h => h) (Or.inl ⟨by rfl, ?_⟩) ?_ ?_; rotate_left; (focus intro w'; go_simp; with_reducible rfl); rotate_left; (focus simp only [pt, i64_w, i32_w]; rfl)
    refine pure_ (i := 10) (N := some 8) (v := ?_) (a' := ?_) #[true, true, true, true, true, true, true, true, true, true, true, false] rfl rfl (any_of HT_.out (by kernel_rfl)) (fun _ _ _ h => h) (Or.inl ⟨by rfl, ?_⟩) ?_ ?_; rotate_left; (focus intro w'; go_simp; with_reducible rfl); rotate_left; (focus simp only [pt, i64_w, i32_w]; rfl)
    refine pure_ (i := 11) (N := some 9) (v := ?_) (a' := ?_) #[true, true, true, true, true, true, true, true, true, true, true, true] rfl rfl (any_of HT_.out (by kernel_rfl)) (fun _ _ _ h => h) (Or.inl ⟨by rfl, ?_⟩) ?_ ?_; rotate_left; (focus intro w'; go_simp; with_reducible rfl); rotate_left; (focus simp only [pt, i64_w, i32_w]; rfl)
    refine done_ (done_of HT_.out (by kernel_rfl)) ?_
    have hcz67_0 : w66.cell? ⟨gb372, 0, none⟩ = some (.slice A0_0 l0_0.length c0_0) := (blk_cell BK372.out 0).trans rfl
    have hcz67_1 : w66.cell? ⟨gb372, 1, none⟩ = some (.slice A0_1 l0_1.length c0_1) := (blk_cell BK372.out 1).trans rfl
    have hfz67_0 := blk_frozen BK372.out 0
    have hfz67_1 := blk_frozen BK372.out 1
    try go_wp2_with (first | ((with_reducible refine gate_callee (f := 8) rfl ?_); refine goesL_ (some 44) rfl rfl Tryz.func8 (by kernel_rfl) rfl #[.agg #[.slice A0_0 l0_0.length c0_0, .slice A0_1 l0_1.length c0_1]] rfl gA ?_; (with_reducible refine (laws_toBase.calls k _ _ l0_0 _ _ l0_1 t392 t395 _ ?side1 ?side2 ?side3 ?side4 A43.out).mono ?_); (case side1 => exact cB HR0_0); (case side2 => exact HC0_0.out); (case side3 => exact cB HR0_1); (case side4 => exact HC0_1.out); rintro e w68 ⟨v393, v396, rfl, ho0, ho1, hb⟩; refine ⟨_, rfl, ?_⟩; have n0_ := Aside0.mk (Kd.S_elder' (pS HO380) (Kd.S_base ho0) hb); have n1_ := Aside0.mk (Kd.R_elder' (pR HO383) (Kd.R_base ho1) hb); have n2_ := Aside0.mk (Kd.R_below (pR HO390) hb); have n3_ := Aside0.mk (Kd.S_lower (Kd.S_new' ho0 (Kd.S_lt (pS HO380))) (below_size (w := w) bW)); have n4_ := Aside0.mk (Kd.R_lower (Kd.R_new' ho1 (Kd.R_lt (pR HO383))) (below_size (w := w) bW)); have n5_ := Aside0.mk (kb BK372 hb); have n6_ := Aside0.mk (kb BK373 hb); have n7_ := Aside0.mk (kb BK374 hb); have n8_ := Aside0.mk (below_step (w := w) bW hb); clear HO380; clear HO383; clear HO390; clear BK372; clear BK373; clear BK374; clear HB; have HO380 := n0_; have HO383 := n1_; have HO390 := n2_; have HO394 := n3_; have HO397 := n4_; have BK372 := n5_; have BK373 := n6_; have BK374 := n7_; have HB := n8_; clear n0_ n1_ n2_ n3_ n4_ n5_ n6_ n7_ n8_; (try clear hb); (try clear hb2); (try clear hk); (try clear hi); (try clear ho0); (try clear ho1)) | ((with_reducible refine gate_dst (N := 10) rfl ?_); refine bE (N := 10) (cs := #[.slice none 0 0, .slice none 0 0]) (t := 36) ?_; intro gb398 hg w69 hbox hb; have n0_ := Aside0.mk (Kd.S_below (pS HO380) hb); have n1_ := Aside0.mk (Kd.R_below (pR HO383) hb); have n2_ := Aside0.mk (Kd.R_below (pR HO390) hb); have n3_ := Aside0.mk (Kd.S_below (pS HO394) hb); have n4_ := Aside0.mk (Kd.R_below (pR HO397) hb); have n5_ := Aside0.mk (kb BK372 hb); have n6_ := Aside0.mk (kb BK373 hb); have n7_ := Aside0.mk (kb BK374 hb); have n8_ := Aside0.mk (below_step (w := w) bW hb); have n9_ := Aside0.mk (hbox); have n10_ := Aside0.mk (gS (w := w) hg); have n11_ := n10_; have n12_ := Aside0.mk (nL BK372 hg); have n13_ := Aside0.mk (nG BK372 hg); have n14_ := Aside0.mk (nL BK373 hg); have n15_ := Aside0.mk (nG BK373 hg); have n16_ := Aside0.mk (nL BK374 hg); have n17_ := Aside0.mk (nG BK374 hg); clear HO380; clear HO383; clear HO390; clear HO394; clear HO397; clear BK372; clear BK373; clear BK374; clear HB; have HO380 := n0_; have HO383 := n1_; have HO390 := n2_; have HO394 := n3_; have HO397 := n4_; have BK372 := n5_; have BK373 := n6_; have BK374 := n7_; have HB := n8_; have BK398 := n9_; have GW398 := n10_; have GE398 := n11_; have NB372_398 := n12_; have NB398_372 := n13_; have NB373_398 := n14_; have NB398_373 := n15_; have NB374_398 := n16_; have NB398_374 := n17_; clear n0_ n1_ n2_ n3_ n4_ n5_ n6_ n7_ n8_ n9_ n10_ n11_ n12_ n13_ n14_ n15_ n16_ n17_; clear hb hbox hg; obtain ⟨Ao70, co70, eo70⟩ := Kd.S_slice HO394.out; subst eo70; have hnb71 := NB398_372.out; have hnc71 := NB372_398.out; have hnb72 := NB398_373.out; have hnc72 := NB373_398.out; have hnb73 := NB398_374.out; have hnc73 := NB374_398.out; obtain ⟨hcz74_0, hcz74_1⟩ := cz2 BK398; obtain ⟨hfz74_0, hfz74_1⟩ := fz2 BK398; obtain ⟨Ao75, co75, eo75⟩ := Kd.R_slice HO397.out; subst eo75))
    have n0_ : Aside0 (Kd.S k64 64 ((w69.setCell ⟨gb398, 0, none⟩ (.slice Ao70 t392.length co70)).setCell ⟨gb398, 1, none⟩ (.slice Ao75 t395.length co75)) w.heap.size (fun k_ => some k_ ≠ (.slice Ao70 t392.length co70 : Value).ownBlock) (.slice Ao64 t378.length co64) t378) := ⟨by (with_reducible repeat (first | apply Kd.S_alloc | apply Kd.S_drewN | apply Kd.S_drew)); exact Kd.S_mono (Kd.S_far (p := ⟨gb398, 1, none⟩) (Kd.S_far (p := ⟨gb398, 0, none⟩) (Kd.S_types HO380.out BK398.out (by decide)) (fun _ hk => hk.2) (.slice Ao70 t392.length co70)) (fun _ hk => hk.2) (.slice Ao75 t395.length co75)) (fun _ hk => hk.1.2)⟩
    have n1_ : Aside0 (Kd.R k92 92 ((w69.setCell ⟨gb398, 0, none⟩ (.slice Ao70 t392.length co70)).setCell ⟨gb398, 1, none⟩ (.slice Ao75 t395.length co75)) w.heap.size (fun k_ => some k_ ≠ (.slice Ao75 t395.length co75 : Value).ownBlock) (.slice Ao65 t381.length co65) t381) := ⟨by (with_reducible repeat (first | apply Kd.R_alloc | apply Kd.R_drewN | apply Kd.R_drew)); exact Kd.R_mono (Kd.R_far (p := ⟨gb398, 1, none⟩) (Kd.R_far (p := ⟨gb398, 0, none⟩) (Kd.R_types HO383.out BK398.out (by decide)) (fun _ hk => hk.2) (.slice Ao70 t392.length co70)) (fun _ hk => hk.2) (.slice Ao75 t395.length co75)) (fun _ hk => hk.1.2)⟩
    have n2_ : Aside0 (Kd.R k68 68 ((w69.setCell ⟨gb398, 0, none⟩ (.slice Ao70 t392.length co70)).setCell ⟨gb398, 1, none⟩ (.slice Ao75 t395.length co75)) w.heap.size (fun _ => True) v389 t388) := ⟨by (with_reducible repeat (first | apply Kd.R_alloc | apply Kd.R_drewN | apply Kd.R_drew)); exact Kd.R_mono (Kd.R_far (p := ⟨gb398, 1, none⟩) (Kd.R_far (p := ⟨gb398, 0, none⟩) (Kd.R_types HO390.out BK398.out (by decide)) (fun _ hk => hk.2) (.slice Ao70 t392.length co70)) (fun _ hk => hk.2) (.slice Ao75 t395.length co75)) (fun _ hk => trivial)⟩
    have n3_ : Aside0 (Kd.S k64 64 ((w69.setCell ⟨gb398, 0, none⟩ (.slice Ao70 t392.length co70)).setCell ⟨gb398, 1, none⟩ (.slice Ao75 t395.length co75)) w.heap.size (fun k_ => some k_ ≠ (.slice Ao64 t378.length co64 : Value).ownBlock) (.slice Ao70 t392.length co70) t392) := ⟨by (with_reducible repeat (first | apply Kd.S_alloc | apply Kd.S_drewN | apply Kd.S_drew)); exact Kd.S_mono (Kd.S_far (p := ⟨gb398, 1, none⟩) (Kd.S_far (p := ⟨gb398, 0, none⟩) (Kd.S_types HO394.out BK398.out (by decide)) (fun _ hk => hk.2) (.slice Ao70 t392.length co70)) (fun _ hk => hk.2) (.slice Ao75 t395.length co75)) (fun _ hk => hk.1.2)⟩
    have n4_ : Aside0 (Kd.R k92 92 ((w69.setCell ⟨gb398, 0, none⟩ (.slice Ao70 t392.length co70)).setCell ⟨gb398, 1, none⟩ (.slice Ao75 t395.length co75)) w.heap.size (fun k_ => some k_ ≠ (.slice Ao65 t381.length co65 : Value).ownBlock) (.slice Ao75 t395.length co75) t395) := ⟨by (with_reducible repeat (first | apply Kd.R_alloc | apply Kd.R_drewN | apply Kd.R_drew)); exact Kd.R_mono (Kd.R_far (p := ⟨gb398, 1, none⟩) (Kd.R_far (p := ⟨gb398, 0, none⟩) (Kd.R_types HO397.out BK398.out (by decide)) (fun _ hk => hk.2) (.slice Ao70 t392.length co70)) (fun _ hk => hk.2) (.slice Ao75 t395.length co75)) (fun _ hk => hk.1.2)⟩
    have n5_ : Aside0 (((w69.setCell ⟨gb398, 0, none⟩ (.slice Ao70 t392.length co70)).setCell ⟨gb398, 1, none⟩ (.slice Ao75 t395.length co75)).heap[gb372]? = some (.cells #[.slice A0_0 l0_0.length c0_0, .slice A0_1 l0_1.length c0_1] 25 (0, 0))) := ⟨by (with_reducible repeat (first | refine blk_drewN ?_ _ | refine blk_drew ?_ | refine blk_alloc ?_ _)); refine blk_far ?_ NB372_398.out _; (with_reducible repeat (first | refine blk_drewN ?_ _ | refine blk_drew ?_ | refine blk_alloc ?_ _)); refine blk_far ?_ NB372_398.out _; (with_reducible repeat (first | refine blk_drewN ?_ _ | refine blk_drew ?_ | refine blk_alloc ?_ _)); exact BK372.out⟩
    have n6_ : Aside0 (((w69.setCell ⟨gb398, 0, none⟩ (.slice Ao70 t392.length co70)).setCell ⟨gb398, 1, none⟩ (.slice Ao75 t395.length co75)).heap[gb373]? = some (.cells #[.string a1_0, .int .i64 a1_1] 27 (0, 0))) := ⟨by (with_reducible repeat (first | refine blk_drewN ?_ _ | refine blk_drew ?_ | refine blk_alloc ?_ _)); refine blk_far ?_ NB373_398.out _; (with_reducible repeat (first | refine blk_drewN ?_ _ | refine blk_drew ?_ | refine blk_alloc ?_ _)); refine blk_far ?_ NB373_398.out _; (with_reducible repeat (first | refine blk_drewN ?_ _ | refine blk_drew ?_ | refine blk_alloc ?_ _)); exact BK373.out⟩
    have n7_ : Aside0 (((w69.setCell ⟨gb398, 0, none⟩ (.slice Ao70 t392.length co70)).setCell ⟨gb398, 1, none⟩ (.slice Ao75 t395.length co75)).heap[gb374]? = some (.cells #[.string a2_0, .int .i64 a2_1] 27 (0, 0))) := ⟨by (with_reducible repeat (first | refine blk_drewN ?_ _ | refine blk_drew ?_ | refine blk_alloc ?_ _)); refine blk_far ?_ NB374_398.out _; (with_reducible repeat (first | refine blk_drewN ?_ _ | refine blk_drew ?_ | refine blk_alloc ?_ _)); refine blk_far ?_ NB374_398.out _; (with_reducible repeat (first | refine blk_drewN ?_ _ | refine blk_drew ?_ | refine blk_alloc ?_ _)); exact BK374.out⟩
    have n8_ : Aside0 (((w69.setCell ⟨gb398, 0, none⟩ (.slice Ao70 t392.length co70)).setCell ⟨gb398, 1, none⟩ (.slice Ao75 t395.length co75)).heap[gb398]? = some (.cells #[.slice Ao70 t392.length co70, .slice Ao75 t395.length co75] 36 (0, 0))) := ⟨by (with_reducible repeat (first | refine blk_drewN ?_ _ | refine blk_drew ?_ | refine blk_alloc ?_ _)); refine blk_put (cs := #[.slice Ao70 t392.length co70, .slice none 0 0]) ?_ 1 _ rfl; (with_reducible repeat (first | refine blk_drewN ?_ _ | refine blk_drew ?_ | refine blk_alloc ?_ _)); refine blk_put (cs := #[.slice none 0 0, .slice none 0 0]) ?_ 0 _ rfl; (with_reducible repeat (first | refine blk_drewN ?_ _ | refine blk_drew ?_ | refine blk_alloc ?_ _)); exact BK398.out⟩
    have n9_ : Aside0 (Below w.heap.size w ((w69.setCell ⟨gb398, 0, none⟩ (.slice Ao70 t392.length co70)).setCell ⟨gb398, 1, none⟩ (.slice Ao75 t395.length co75))) := ⟨bW⟩
    (try clear HO380)
    (try clear HO383)
    (try clear HO390)
    (try clear HO394)
    (try clear HO397)
    (try clear BK372)
    (try clear BK373)
    (try clear BK374)
    (try clear BK398)
    (try clear HB)
    generalize ((w69.setCell ⟨gb398, 0, none⟩ (.slice Ao70 t392.length co70)).setCell ⟨gb398, 1, none⟩ (.slice Ao75 t395.length co75)) = w76 at n0_ n1_ n2_ n3_ n4_ n5_ n6_ n7_ n8_ n9_ ⊢
    have HO380 := n0_
    have HO383 := n1_
    have HO390 := n2_
    have HO394 := n3_
    have HO397 := n4_
    have BK372 := n5_
    have BK373 := n6_
    have BK374 := n7_
    have BK398 := n8_
    have HB := n9_
    clear n0_ n1_ n2_ n3_ n4_ n5_ n6_ n7_ n8_ n9_
    have n0_ := Aside0.mk (Kd.S_drew HO380.out)
    have n1_ := Aside0.mk (Kd.R_drew HO383.out)
    have n2_ := Aside0.mk (Kd.R_drew HO390.out)
    have n3_ := Aside0.mk (Kd.S_drew HO394.out)
    have n4_ := Aside0.mk (Kd.R_drew HO397.out)
    have n5_ := Aside0.mk (blk_drew BK372.out)
    have n6_ := Aside0.mk (blk_drew BK373.out)
    have n7_ := Aside0.mk (blk_drew BK374.out)
    have n8_ := Aside0.mk (blk_drew BK398.out)
    have n9_ := Aside0.mk (below_drew1 HB.out)
    clear HO380
    clear HO383
    clear HO390
    clear HO394
    clear HO397
    clear BK372
    clear BK373
    clear BK374
    clear BK398
    clear HB
    have HO380 := n0_
    have HO383 := n1_
    have HO390 := n2_
    have HO394 := n3_
    have HO397 := n4_
    have BK372 := n5_
    have BK373 := n6_
    have BK374 := n7_
    have BK398 := n8_
    have HB := n9_
    clear n0_ n1_ n2_ n3_ n4_ n5_ n6_ n7_ n8_ n9_
    refine start_ (n := 11) (S := fun w' => w'.cell? ⟨gb398, 0, none⟩ = some (.slice Ao70 t392.length co70) ∧ w'.cell? ⟨gb398, 1, none⟩ = some (.slice Ao75 t395.length co75) ∧ w'.cell? ⟨gb373, 0, none⟩ = some (.string a1_0) ∧ w'.cell? ⟨gb373, 1, none⟩ = some (.int .i64 a1_1) ∧ w'.cell? ⟨gb374, 0, none⟩ = some (.string a2_0) ∧ w'.cell? ⟨gb374, 1, none⟩ = some (.int .i64 a2_1)) (ds := []) #[false, false, false, false, false, false, false, false, false, false, false] (by kernel_rfl) rfl rfl ⟨(blk_cell BK398.out 0).trans rfl, (blk_cell BK398.out 1).trans rfl, (blk_cell BK373.out 0).trans rfl, (blk_cell BK373.out 1).trans rfl, (blk_cell BK374.out 0).trans rfl, (blk_cell BK374.out 1).trans rfl⟩ (fun hHeld => ?_); refine with_tabW laws_FnExactDiffSnaps.tab13 laws_FnExactDiffSnaps.bits13 (fun HT_ HW_ => ?_)
    generalize w76.drew = w77 at HO380 HO383 HO390 HO394 HO397 BK372 BK373 BK374 BK398 HB hHeld ⊢
    refine take_ (i := 0) (N := some 46) (v := ?_) (a' := ?_) #[true, false, false, false, false, false, false, false, false, false, false] rfl rfl (take_ofW HT_.out HW_.out (by kernel_rfl)) (fun _ _ _ h => h) (Or.inl ⟨by rfl, ?_⟩) hHeld ?_ ?_; rotate_left; (focus rintro w' ⟨s0, s1, s2, s3, s4, s5⟩; go_simp; with_reducible rfl); rotate_left; (focus simp only [pt, i64_w, i32_w]; rfl)
    refine take_ (i := 1) (N := some 47) (v := ?_) (a' := ?_) #[true, true, false, false, false, false, false, false, false, false, false] rfl rfl (take_ofW HT_.out HW_.out (by kernel_rfl)) (fun _ _ _ h => h) (Or.inl ⟨by rfl, ?_⟩) hHeld ?_ ?_; rotate_left; (focus rintro w' ⟨s0, s1, s2, s3, s4, s5⟩; go_simp; with_reducible rfl); rotate_left; (focus simp only [pt, i64_w, i32_w]; rfl)
    refine take_ (i := 3) (N := some 49) (v := ?_) (a' := ?_) #[true, true, false, true, false, false, false, false, false, false, false] rfl rfl (take_ofW HT_.out HW_.out (by kernel_rfl)) (fun _ _ _ h => h) (Or.inl ⟨by rfl, ?_⟩) hHeld ?_ ?_; rotate_left; (focus rintro w' ⟨s0, s1, s2, s3, s4, s5⟩; go_simp; with_reducible rfl); rotate_left; (focus simp only [pt, i64_w, i32_w]; rfl)
    refine one_ (i := 2) (N := some 48) #[true, true, true, true, false, false, false, false, false, false, false] rfl rfl (one_of HT_.out (by kernel_rfl)) (by decide) (fun K hK => ?_)
    refine goes_ Tryz.func9 (by kernel_rfl) rfl #[.agg #[.string a1_0, .int .i64 a1_1]] (by rfl) rfl rfl gA ?_
    with_reducible refine (laws_toSnap.calls a1_0 a1_1 t399 t400 _ A44.out).mono ?_
    rintro e w78 ⟨rfl, hb⟩
    refine ⟨_, rfl, ?_⟩
    have n0_ := Aside0.mk (Kd.S_below (pS HO380) hb)
    have n1_ := Aside0.mk (Kd.R_below (pR HO383) hb)
    have n2_ := Aside0.mk (Kd.R_below (pR HO390) hb)
    have n3_ := Aside0.mk (Kd.S_below (pS HO394) hb)
    have n4_ := Aside0.mk (Kd.R_below (pR HO397) hb)
    have n5_ := Aside0.mk (kb BK372 hb)
    have n6_ := Aside0.mk (kb BK373 hb)
    have n7_ := Aside0.mk (kb BK374 hb)
    have n8_ := Aside0.mk (kb BK398 hb)
    have n9_ := Aside0.mk (below_step (w := w) bW hb)
    clear HO380
    clear HO383
    clear HO390
    clear HO394
    clear HO397
    clear BK372
    clear BK373
    clear BK374
    clear BK398
    clear HB
    have HO380 := n0_
    have HO383 := n1_
    have HO390 := n2_
    have HO394 := n3_
    have HO397 := n4_
    have BK372 := n5_
    have BK373 := n6_
    have BK374 := n7_
    have BK398 := n8_
    have HB := n9_
    clear n0_ n1_ n2_ n3_ n4_ n5_ n6_ n7_ n8_ n9_
    (try clear hb)
    (try clear hb2)
    (try clear hk)
    (try clear hi)
    refine hK.out _ _ ⟨(blk_cell BK398.out 0).trans rfl, (blk_cell BK398.out 1).trans rfl, (blk_cell BK373.out 0).trans rfl, (blk_cell BK373.out 1).trans rfl, (blk_cell BK374.out 0).trans rfl, (blk_cell BK374.out 1).trans rfl⟩ (fun hHeld => ?_)
    clear hK K
    refine norm_ (a' := ?_) ?_ ?_
    rotate_left
    ·show Act.put _ (some 48) _ = _
     simp only [Act.put, List.setIfInBounds_toArray, List.set_cons_zero, List.set_cons_succ, i64_w, i32_w]
     rfl
    refine one_ (i := 4) (N := some 50) #[true, true, true, true, true, false, false, false, false, false, false] rfl rfl (one_of HT_.out (by kernel_rfl)) (by decide) (fun K hK => ?_)
    refine goes_ Tryz.func9 (by kernel_rfl) rfl #[.agg #[.string a2_0, .int .i64 a2_1]] (by rfl) rfl rfl gA ?_
    with_reducible refine (laws_toSnap.calls a2_0 a2_1 t401 t402 _ A45.out).mono ?_
    rintro e w79 ⟨rfl, hb⟩
    refine ⟨_, rfl, ?_⟩
    have n0_ := Aside0.mk (Kd.S_below (pS HO380) hb)
    have n1_ := Aside0.mk (Kd.R_below (pR HO383) hb)
    have n2_ := Aside0.mk (Kd.R_below (pR HO390) hb)
    have n3_ := Aside0.mk (Kd.S_below (pS HO394) hb)
    have n4_ := Aside0.mk (Kd.R_below (pR HO397) hb)
    have n5_ := Aside0.mk (kb BK372 hb)
    have n6_ := Aside0.mk (kb BK373 hb)
    have n7_ := Aside0.mk (kb BK374 hb)
    have n8_ := Aside0.mk (kb BK398 hb)
    have n9_ := Aside0.mk (below_step (w := w) bW hb)
    clear HO380
    clear HO383
    clear HO390
    clear HO394
    clear HO397
    clear BK372
    clear BK373
    clear BK374
    clear BK398
    clear HB
    have HO380 := n0_
    have HO383 := n1_
    have HO390 := n2_
    have HO394 := n3_
    have HO397 := n4_
    have BK372 := n5_
    have BK373 := n6_
    have BK374 := n7_
    have BK398 := n8_
    have HB := n9_
    clear n0_ n1_ n2_ n3_ n4_ n5_ n6_ n7_ n8_ n9_
    (try clear hb)
    (try clear hb2)
    (try clear hk)
    (try clear hi)
    refine hK.out _ _ ⟨(blk_cell BK398.out 0).trans rfl, (blk_cell BK398.out 1).trans rfl, (blk_cell BK373.out 0).trans rfl, (blk_cell BK373.out 1).trans rfl, (blk_cell BK374.out 0).trans rfl, (blk_cell BK374.out 1).trans rfl⟩ (fun hHeld => ?_)
    clear hK K
    refine norm_ (a' := ?_) ?_ ?_
    rotate_left
    ·show Act.put _ (some 50) _ = _
     simp only [Act.put, List.setIfInBounds_toArray, List.set_cons_zero, List.set_cons_succ, i64_w, i32_w]
     rfl
    refine one_ (i := 5) (N := some 51) #[true, true, true, true, true, true, false, false, false, false, false] rfl rfl (one_of HT_.out (by kernel_rfl)) (by decide) (fun K hK => ?_)
    refine goes_ Tryz.func10 (by kernel_rfl) rfl #[.agg #[.slice Ao70 t392.length co70, .slice Ao75 t395.length co75], .agg #[.string t399, .int .i64 t400], .agg #[.string t401, .int .i64 t402]] (by rfl) rfl rfl gA ?_
    with_reducible refine (impl_DiffSnaps.calls k _ _ t392 _ _ t395 t399 t400 t401 t402 t403 t406 _ ?side1 ?side2 ?side3 ?side4 A46.out).mono ?_
    (case side1 => repeat (first | exact (Kd.S_reads' HO394.out).2.2 | (with_reducible refine Kd.C_alloc ?_ _) | (with_reducible refine Kd.C_drewN ?_ _) | (with_reducible refine Kd.C_drew ?_)))
    (case side2 => exact (Kd.S_reads' HO394.out).2.1)
    (case side3 => repeat (first | exact (Kd.R_reads' HO397.out).2.2 | (with_reducible refine Kd.C_alloc ?_ _) | (with_reducible refine Kd.C_drewN ?_ _) | (with_reducible refine Kd.C_drew ?_)))
    (case side4 => exact (Kd.R_reads' HO397.out).2.1)
    rintro e w80 ⟨v404, rfl, ho0, hb⟩
    refine ⟨_, rfl, ?_⟩
    have n0_ := Aside0.mk (Kd.S_below (pS HO380) hb)
    have n1_ := Aside0.mk (Kd.R_below (pR HO383) hb)
    have n2_ := Aside0.mk (Kd.R_elder' (pR HO390) (Kd.R_base ho0) hb)
    have n3_ := Aside0.mk (Kd.S_below (pS HO394) hb)
    have n4_ := Aside0.mk (Kd.R_below (pR HO397) hb)
    have n5_ := Aside0.mk (Kd.R_lower (Kd.R_new' ho0 (Kd.R_lt (pR HO390))) (below_size (w := w) bW))
    have n6_ := Aside0.mk (kb BK372 hb)
    have n7_ := Aside0.mk (kb BK373 hb)
    have n8_ := Aside0.mk (kb BK374 hb)
    have n9_ := Aside0.mk (kb BK398 hb)
    have n10_ := Aside0.mk (below_step (w := w) bW hb)
    clear HO380
    clear HO383
    clear HO390
    clear HO394
    clear HO397
    clear BK372
    clear BK373
    clear BK374
    clear BK398
    clear HB
    have HO380 := n0_
    have HO383 := n1_
    have HO390 := n2_
    have HO394 := n3_
    have HO397 := n4_
    have HO405 := n5_
    have BK372 := n6_
    have BK373 := n7_
    have BK374 := n8_
    have BK398 := n9_
    have HB := n10_
    clear n0_ n1_ n2_ n3_ n4_ n5_ n6_ n7_ n8_ n9_ n10_
    (try clear hb)
    (try clear hb2)
    (try clear hk)
    (try clear hi)
    (try clear ho0)
    refine hK.out _ _ ⟨(blk_cell BK398.out 0).trans rfl, (blk_cell BK398.out 1).trans rfl, (blk_cell BK373.out 0).trans rfl, (blk_cell BK373.out 1).trans rfl, (blk_cell BK374.out 0).trans rfl, (blk_cell BK374.out 1).trans rfl⟩ (fun hHeld => ?_)
    clear hK K
    refine norm_ (a' := ?_) ?_ ?_
    rotate_left
    ·show Act.put _ (some 51) _ = _
     simp only [Act.put, List.setIfInBounds_toArray, List.set_cons_zero, List.set_cons_succ, i64_w, i32_w]
     rfl
    refine pure_ (i := 6) (N := some 45) (v := ?_) (a' := ?_) #[true, true, true, true, true, true, true, false, false, false, false] rfl rfl (any_of HT_.out (by kernel_rfl)) (fun _ _ _ h => h) (Or.inl ⟨by rfl, ?_⟩) ?_ ?_; rotate_left; (focus intro w'; go_simp; with_reducible rfl); rotate_left; (focus simp only [pt, i64_w, i32_w]; rfl)
    refine pure_ (i := 7) (N := some 52) (v := ?_) (a' := ?_) #[true, true, true, true, true, true, true, true, false, false, false] rfl rfl (any_of HT_.out (by kernel_rfl)) (fun _ _ _ h => h) (Or.inl ⟨by rfl, ?_⟩) ?_ ?_; rotate_left; (focus intro w'; go_simp; with_reducible rfl); rotate_left; (focus simp only [pt, i64_w, i32_w]; rfl)
    refine pure_ (i := 8) (N := some 53) (v := ?_) (a' := ?_) #[true, true, true, true, true, true, true, true, true, false, false] rfl rfl (any_of HT_.out (by kernel_rfl)) (fun _ _ _ h => h) (Or.inl ⟨by rfl, ?_⟩) ?_ ?_; rotate_left; (focus intro w'; go_simp; with_reducible rfl); rotate_left; (focus simp only [pt, i64_w, i32_w]; rfl)
    refine pure_ (i := 9) (N := some 11) (v := ?_) (a' := ?_) #[true, true, true, true, true, true, true, true, true, true, false] rfl rfl (any_of HT_.out (by kernel_rfl)) (fun _ _ _ h => h) (Or.inl ⟨by rfl, ?_⟩) ?_ ?_; rotate_left; (focus intro w'; go_simp; with_reducible rfl); rotate_left; (focus simp only [pt, i64_w, i32_w]; rfl)
    refine pure_ (i := 10) (N := some 12) (v := ?_) (a' := ?_) #[true, true, true, true, true, true, true, true, true, true, true] rfl rfl (any_of HT_.out (by kernel_rfl)) (fun _ _ _ h => h) (Or.inl ⟨by rfl, ?_⟩) ?_ ?_; rotate_left; (focus intro w'; go_simp; with_reducible rfl); rotate_left; (focus simp only [pt, i64_w, i32_w]; rfl)
    refine done_ (done_of HT_.out (by kernel_rfl)) ?_
    go_upto_region 14 with (fail)
    go_cut [62] (fun v62 wc => ∃ (kq : Nat) (x62_46 : Bool), v62 = .bool x62_46 ∧ Aside0 (laws_FnExactDiffSnaps.j0 kq t388 t391 t403 t406 x62_46 l0_0 l0_1 a1_0 a1_1 a2_0 a2_1 t392 t395 = some true) ∧ Aside0 (kq ≤ k) ∧ Aside0 (Kd.R k68 68 wc w.heap.size (fun k_ => some k_ ≠ (v404 : Value).ownBlock) v389 t388) ∧ Aside0 (Kd.R k68 68 wc w.heap.size (fun k_ => some k_ ≠ (v389 : Value).ownBlock) v404 t403) ∧ Aside0 (Kd.S k64 64 wc w.heap.size (fun _ => True) (.slice Ao70 t392.length co70) t392) ∧ Aside0 (Kd.R k92 92 wc w.heap.size (fun _ => True) (.slice Ao75 t395.length co75) t395) ∧ Aside0 (wc.heap[gb372]? = some (.cells #[(.slice A0_0 l0_0.length c0_0), (.slice A0_1 l0_1.length c0_1)] 25 (0, 0))) ∧ Aside0 (wc.heap[gb373]? = some (.cells #[.string a1_0, .int .i64 a1_1] 27 (0, 0))) ∧ Aside0 (wc.heap[gb374]? = some (.cells #[.string a2_0, .int .i64 a2_1] 27 (0, 0))) ∧ Aside0 (wc.heap[gb398]? = some (.cells #[(.slice Ao70 t392.length co70), (.slice Ao75 t395.length co75)] 36 (0, 0))) ∧ Aside0 (Below w.heap.size w wc))
    case first =>
     have H := HC47.out
     clear HC47
     replace H := Option.bind_eq_some_iff.mp H
     obtain ⟨t407, A810, H⟩ := H
     replace H : (if t407 = true then (laws_FnExactDiffSnaps.j0 k t388 t391 t403 t406 (t406 != t391) l0_0 l0_1 a1_0 a1_1 a2_0 a2_1 t392 t395) else (laws_FnExactDiffSnaps.j0 k t388 t391 t403 t406 true l0_0 l0_1 a1_0 a1_1 a2_0 a2_1 t392 t395)) = some true := H
     have A81 := Aside0.mk A810
     clear A810
     by_cases c82 : t407 = true
     ·subst c82
      have H1 : (laws_FnExactDiffSnaps.j0 k t388 t391 t403 t406 (t406 != t391) l0_0 l0_1 a1_0 a1_1 a2_0 a2_1 t392 t395) = some true := by rw [if_pos rfl] at H; exact H
      clear H
      have H := H1
      clear H1
      have H' := Aside0.mk H
      clear H
      obtain ⟨Ao83, co83, eo83⟩ := Kd.R_slice HO405.out
      subst eo83
      obtain ⟨Ao84, co84, eo84⟩ := Kd.R_slice HO390.out
      subst eo84
      go_wp2_with (first | ((with_reducible refine gate_callee (f := 11) rfl ?_); refine goesL_ (some 56) rfl rfl Tryz.func11 (by kernel_rfl) rfl #[.slice Ao83 t403.length co83, .slice Ao84 t388.length co84] rfl gA ?_; (with_reducible refine (laws_eqEditS.calls k _ _ t403 _ _ t388 true _ ?side1 ?side2 ?side3 ?side4 A81.out).mono ?_); (case side1 => repeat (first | exact (Kd.R_reads' HO405.out).2.2 | (with_reducible refine Kd.C_alloc ?_ _) | (with_reducible refine Kd.C_drewN ?_ _) | (with_reducible refine Kd.C_drew ?_))); (case side2 => exact (Kd.R_reads' HO405.out).2.1); (case side3 => repeat (first | exact (Kd.R_reads' HO390.out).2.2 | (with_reducible refine Kd.C_alloc ?_ _) | (with_reducible refine Kd.C_drewN ?_ _) | (with_reducible refine Kd.C_drew ?_))); (case side4 => exact (Kd.R_reads' HO390.out).2.1); rintro e w85 ⟨rfl, hb⟩; refine ⟨_, rfl, ?_⟩; have n0_ := Aside0.mk (Kd.S_below (pS HO380) hb); have n1_ := Aside0.mk (Kd.R_below (pR HO383) hb); have n2_ := Aside0.mk (Kd.R_below (pR HO390) hb); have n3_ := Aside0.mk (Kd.S_below (pS HO394) hb); have n4_ := Aside0.mk (Kd.R_below (pR HO397) hb); have n5_ := Aside0.mk (Kd.R_below (pR HO405) hb); have n6_ := Aside0.mk (kb BK372 hb); have n7_ := Aside0.mk (kb BK373 hb); have n8_ := Aside0.mk (kb BK374 hb); have n9_ := Aside0.mk (kb BK398 hb); have n10_ := Aside0.mk (below_step (w := w) bW hb); clear HO380; clear HO383; clear HO390; clear HO394; clear HO397; clear HO405; clear BK372; clear BK373; clear BK374; clear BK398; clear HB; have HO380 := n0_; have HO383 := n1_; have HO390 := n2_; have HO394 := n3_; have HO397 := n4_; have HO405 := n5_; have BK372 := n6_; have BK373 := n7_; have BK374 := n8_; have BK398 := n9_; have HB := n10_; clear n0_ n1_ n2_ n3_ n4_ n5_ n6_ n7_ n8_ n9_ n10_; (try clear hb); (try clear hb2); (try clear hk); (try clear hi)))
      go_meet
      case rel => exact ⟨_, ((t406 != t391)), vE, H', ⟨by first | omega | exact Nat.le_refl _⟩, ⟨by (with_reducible repeat (first | apply Kd.R_alloc | apply Kd.R_drewN | apply Kd.R_drew)); exact Kd.R_mono HO390.out (fun _ hk => hk.2)⟩, ⟨by (with_reducible repeat (first | apply Kd.R_alloc | apply Kd.R_drewN | apply Kd.R_drew)); exact Kd.R_mono HO405.out (fun _ hk => hk.2)⟩, ⟨by (with_reducible repeat (first | apply Kd.S_alloc | apply Kd.S_drewN | apply Kd.S_drew)); exact Kd.S_mono HO394.out (fun _ hk => trivial)⟩, ⟨by (with_reducible repeat (first | apply Kd.R_alloc | apply Kd.R_drewN | apply Kd.R_drew)); exact Kd.R_mono HO397.out (fun _ hk => trivial)⟩, ⟨by (with_reducible repeat (first | refine blk_drewN ?_ _ | refine blk_drew ?_ | refine blk_alloc ?_ _)); exact BK372.out⟩, ⟨by (with_reducible repeat (first | refine blk_drewN ?_ _ | refine blk_drew ?_ | refine blk_alloc ?_ _)); exact BK373.out⟩, ⟨by (with_reducible repeat (first | refine blk_drewN ?_ _ | refine blk_drew ?_ | refine blk_alloc ?_ _)); exact BK374.out⟩, ⟨by (with_reducible repeat (first | refine blk_drewN ?_ _ | refine blk_drew ?_ | refine blk_alloc ?_ _)); exact BK398.out⟩, ⟨bW⟩⟩
     ·replace c82 := Bool.eq_false_iff.mpr c82
      subst c82
      have H1 : (laws_FnExactDiffSnaps.j0 k t388 t391 t403 t406 true l0_0 l0_1 a1_0 a1_1 a2_0 a2_1 t392 t395) = some true := by rw [if_neg (show ¬ (false = true) by decide)] at H; exact H
      clear H
      have H := H1
      clear H1
      have H' := Aside0.mk H
      clear H
      obtain ⟨Ao86, co86, eo86⟩ := Kd.R_slice HO405.out
      subst eo86
      obtain ⟨Ao87, co87, eo87⟩ := Kd.R_slice HO390.out
      subst eo87
      go_wp2_with (first | ((with_reducible refine gate_callee (f := 11) rfl ?_); refine goesL_ (some 56) rfl rfl Tryz.func11 (by kernel_rfl) rfl #[.slice Ao86 t403.length co86, .slice Ao87 t388.length co87] rfl gA ?_; (with_reducible refine (laws_eqEditS.calls k _ _ t403 _ _ t388 false _ ?side1 ?side2 ?side3 ?side4 A81.out).mono ?_); (case side1 => repeat (first | exact (Kd.R_reads' HO405.out).2.2 | (with_reducible refine Kd.C_alloc ?_ _) | (with_reducible refine Kd.C_drewN ?_ _) | (with_reducible refine Kd.C_drew ?_))); (case side2 => exact (Kd.R_reads' HO405.out).2.1); (case side3 => repeat (first | exact (Kd.R_reads' HO390.out).2.2 | (with_reducible refine Kd.C_alloc ?_ _) | (with_reducible refine Kd.C_drewN ?_ _) | (with_reducible refine Kd.C_drew ?_))); (case side4 => exact (Kd.R_reads' HO390.out).2.1); rintro e w88 ⟨rfl, hb⟩; refine ⟨_, rfl, ?_⟩; have n0_ := Aside0.mk (Kd.S_below (pS HO380) hb); have n1_ := Aside0.mk (Kd.R_below (pR HO383) hb); have n2_ := Aside0.mk (Kd.R_below (pR HO390) hb); have n3_ := Aside0.mk (Kd.S_below (pS HO394) hb); have n4_ := Aside0.mk (Kd.R_below (pR HO397) hb); have n5_ := Aside0.mk (Kd.R_below (pR HO405) hb); have n6_ := Aside0.mk (kb BK372 hb); have n7_ := Aside0.mk (kb BK373 hb); have n8_ := Aside0.mk (kb BK374 hb); have n9_ := Aside0.mk (kb BK398 hb); have n10_ := Aside0.mk (below_step (w := w) bW hb); clear HO380; clear HO383; clear HO390; clear HO394; clear HO397; clear HO405; clear BK372; clear BK373; clear BK374; clear BK398; clear HB; have HO380 := n0_; have HO383 := n1_; have HO390 := n2_; have HO394 := n3_; have HO397 := n4_; have HO405 := n5_; have BK372 := n6_; have BK373 := n7_; have BK374 := n8_; have BK398 := n9_; have HB := n10_; clear n0_ n1_ n2_ n3_ n4_ n5_ n6_ n7_ n8_ n9_ n10_; (try clear hb); (try clear hb2); (try clear hk); (try clear hi)))
      go_meet
      case rel => exact ⟨_, (true), vE, H', ⟨by first | omega | exact Nat.le_refl _⟩, ⟨by (with_reducible repeat (first | apply Kd.R_alloc | apply Kd.R_drewN | apply Kd.R_drew)); exact Kd.R_mono HO390.out (fun _ hk => hk.2)⟩, ⟨by (with_reducible repeat (first | apply Kd.R_alloc | apply Kd.R_drewN | apply Kd.R_drew)); exact Kd.R_mono HO405.out (fun _ hk => hk.2)⟩, ⟨by (with_reducible repeat (first | apply Kd.S_alloc | apply Kd.S_drewN | apply Kd.S_drew)); exact Kd.S_mono HO394.out (fun _ hk => trivial)⟩, ⟨by (with_reducible repeat (first | apply Kd.R_alloc | apply Kd.R_drewN | apply Kd.R_drew)); exact Kd.R_mono HO397.out (fun _ hk => trivial)⟩, ⟨by (with_reducible repeat (first | refine blk_drewN ?_ _ | refine blk_drew ?_ | refine blk_alloc ?_ _)); exact BK372.out⟩, ⟨by (with_reducible repeat (first | refine blk_drewN ?_ _ | refine blk_drew ?_ | refine blk_alloc ?_ _)); exact BK373.out⟩, ⟨by (with_reducible repeat (first | refine blk_drewN ?_ _ | refine blk_drew ?_ | refine blk_alloc ?_ _)); exact BK374.out⟩, ⟨by (with_reducible repeat (first | refine blk_drewN ?_ _ | refine blk_drew ?_ | refine blk_alloc ?_ _)); exact BK398.out⟩, ⟨bW⟩⟩
    case rest =>
     clear HC47
     try clear c1
     try clear p2
     try clear c3
     try clear c5
     try clear c6
     try clear c7
     try clear c8
     try clear c9
     try clear c10
     try clear c11
     try clear c51
     try clear c52
     try clear c55
     try clear c71
     try clear c72
     try clear c73
     try clear c82
     try clear hcz53_0
     try clear hcz53_1
     try clear hcz56_0
     try clear hcz56_1
     try clear hcz58_0
     try clear hcz58_1
     try clear hcz67_0
     try clear hcz67_1
     try clear hcz74_0
     try clear hcz74_1
     try clear hfz53_0
     try clear hfz53_1
     try clear hfz56_0
     try clear hfz56_1
     try clear hfz58_0
     try clear hfz58_1
     try clear hfz67_0
     try clear hfz67_1
     try clear hfz74_0
     try clear hfz74_1
     obtain ⟨kq, x62_46, rfl, HA, HJ46, HO_8, HO_11, HO_399000, HO_399001, BK372, BK373, BK374, BK398, HB⟩ := hcut
     cases kq with
     | zero => exact absurd HA.out (by simp [laws_FnExactDiffSnaps.j0])
     | succ kj46 =>
      have H := HA.out
      clear HA
      simp only [laws_FnExactDiffSnaps.j0] at H
      by_cases c89 : x62_46 = true
      ·subst c89
       have H1 : (some false) = some true := by rw [if_pos rfl] at H; exact H
       exact absurd H1 (by simp)
      ·replace c89 := Bool.eq_false_iff.mpr c89
       subst c89
       have H1 : ((laws_toBase.f kj46 l0_0 l0_1).bind fun bt408 => ((laws_eqBase.f kj46 t392 t395 bt408.1 bt408.2).bind fun t414 => (if t414 = true then ((laws_markBase.f kj46 t392 t395 1).bind fun t415 => (if t415 < 0 then (laws_FnExactDiffSnaps.j1 kj46 t388 t391 t403 true l0_0 l0_1 a1_0 a1_1 a2_0 a2_1) else ((laws_eqEditS.f kj46 t403 t388).bind fun t416 => (if t416 = true then (laws_FnExactDiffSnaps.j1 kj46 t388 t391 t403 (t406 != t391) l0_0 l0_1 a1_0 a1_1 a2_0 a2_1) else (laws_FnExactDiffSnaps.j1 kj46 t388 t391 t403 true l0_0 l0_1 a1_0 a1_1 a2_0 a2_1))))) else (some false)))) = some true := by rw [if_neg (show ¬ (false = true) by decide)] at H; exact H
       clear H
       have H := H1
       clear H1
       replace H := Option.bind_eq_some_iff.mp H
       obtain ⟨⟨t408, t411⟩, A900, H⟩ := H
       replace H : ((laws_eqBase.f kj46 t392 t395 t408 t411).bind fun t414 => (if t414 = true then ((laws_markBase.f kj46 t392 t395 1).bind fun t415 => (if t415 < 0 then (laws_FnExactDiffSnaps.j1 kj46 t388 t391 t403 true l0_0 l0_1 a1_0 a1_1 a2_0 a2_1) else ((laws_eqEditS.f kj46 t403 t388).bind fun t416 => (if t416 = true then (laws_FnExactDiffSnaps.j1 kj46 t388 t391 t403 (t406 != t391) l0_0 l0_1 a1_0 a1_1 a2_0 a2_1) else (laws_FnExactDiffSnaps.j1 kj46 t388 t391 t403 true l0_0 l0_1 a1_0 a1_1 a2_0 a2_1))))) else (some false))) = some true := H
       have A90 := Aside0.mk A900
       clear A900
       replace H := Option.bind_eq_some_iff.mp H
       obtain ⟨t414, A910, H⟩ := H
       replace H : (if t414 = true then ((laws_markBase.f kj46 t392 t395 1).bind fun t415 => (if t415 < 0 then (laws_FnExactDiffSnaps.j1 kj46 t388 t391 t403 true l0_0 l0_1 a1_0 a1_1 a2_0 a2_1) else ((laws_eqEditS.f kj46 t403 t388).bind fun t416 => (if t416 = true then (laws_FnExactDiffSnaps.j1 kj46 t388 t391 t403 (t406 != t391) l0_0 l0_1 a1_0 a1_1 a2_0 a2_1) else (laws_FnExactDiffSnaps.j1 kj46 t388 t391 t403 true l0_0 l0_1 a1_0 a1_1 a2_0 a2_1))))) else (some false)) = some true := H
       have A91 := Aside0.mk A910
       clear A910
       by_cases c92 : t414 = true
       ·subst c92
        have H1 : ((laws_markBase.f kj46 t392 t395 1).bind fun t415 => (if t415 < 0 then (laws_FnExactDiffSnaps.j1 kj46 t388 t391 t403 true l0_0 l0_1 a1_0 a1_1 a2_0 a2_1) else ((laws_eqEditS.f kj46 t403 t388).bind fun t416 => (if t416 = true then (laws_FnExactDiffSnaps.j1 kj46 t388 t391 t403 (t406 != t391) l0_0 l0_1 a1_0 a1_1 a2_0 a2_1) else (laws_FnExactDiffSnaps.j1 kj46 t388 t391 t403 true l0_0 l0_1 a1_0 a1_1 a2_0 a2_1))))) = some true := by rw [if_pos rfl] at H; exact H
        clear H
        have H := H1
        clear H1
        replace H := Option.bind_eq_some_iff.mp H
        obtain ⟨t415, A930, H⟩ := H
        replace H : (if t415 < 0 then (laws_FnExactDiffSnaps.j1 kj46 t388 t391 t403 true l0_0 l0_1 a1_0 a1_1 a2_0 a2_1) else ((laws_eqEditS.f kj46 t403 t388).bind fun t416 => (if t416 = true then (laws_FnExactDiffSnaps.j1 kj46 t388 t391 t403 (t406 != t391) l0_0 l0_1 a1_0 a1_1 a2_0 a2_1) else (laws_FnExactDiffSnaps.j1 kj46 t388 t391 t403 true l0_0 l0_1 a1_0 a1_1 a2_0 a2_1)))) = some true := H
        have A93 := Aside0.mk A930
        clear A930
        have HC94 := Aside0.mk H
        clear H
        try go_wp2
        have n0_ := Aside0.mk (Kd.R_drew HO_8.out)
        have n1_ := Aside0.mk (Kd.R_drew HO_11.out)
        have n2_ := Aside0.mk (Kd.S_drew HO_399000.out)
        have n3_ := Aside0.mk (Kd.R_drew HO_399001.out)
        have n4_ := Aside0.mk (blk_drew BK372.out)
        have n5_ := Aside0.mk (blk_drew BK373.out)
        have n6_ := Aside0.mk (blk_drew BK374.out)
        have n7_ := Aside0.mk (blk_drew BK398.out)
        have n8_ := Aside0.mk (below_drew1 HB.out)
        clear HO_8
        clear HO_11
        clear HO_399000
        clear HO_399001
        clear BK372
        clear BK373
        clear BK374
        clear BK398
        clear HB
        have HO_8 := n0_
        have HO_11 := n1_
        have HO_399000 := n2_
        have HO_399001 := n3_
        have BK372 := n4_
        have BK373 := n5_
        have BK374 := n6_
        have BK398 := n7_
        have HB := n8_
        clear n0_ n1_ n2_ n3_ n4_ n5_ n6_ n7_ n8_
        refine start_ (n := 5) (S := fun w' => w'.cell? ⟨gb398, 0, none⟩ = some (.slice Ao70 t392.length co70) ∧ w'.cell? ⟨gb398, 1, none⟩ = some (.slice Ao75 t395.length co75) ∧ w'.cell? ⟨gb372, 0, none⟩ = some (.slice A0_0 l0_0.length c0_0) ∧ w'.cell? ⟨gb372, 1, none⟩ = some (.slice A0_1 l0_1.length c0_1)) (ds := []) #[false, false, false, false, false] (by kernel_rfl) rfl rfl ⟨(blk_cell BK398.out 0).trans rfl, (blk_cell BK398.out 1).trans rfl, (blk_cell BK372.out 0).trans rfl, (blk_cell BK372.out 1).trans rfl⟩ (fun hHeld => ?_)
        generalize wc.drew = w95 at HO_8 HO_11 HO_399000 HO_399001 BK372 BK373 BK374 BK398 HB hHeld ⊢
        refine take_ (i := 0) (N := some 63) (v := ?_) (a' := ?_) #[true, false, false, false, false] rfl rfl (by kernel_rfl) (fun _ _ _ h => h) (Or.inl ⟨by rfl, ?_⟩) hHeld ?_ ?_; rotate_left; (focus rintro w' ⟨s0, s1, s2, s3⟩; go_simp; with_reducible rfl); rotate_left; (focus simp only [pt, i64_w, i32_w]; rfl)
        refine take_ (i := 1) (N := some 64) (v := ?_) (a' := ?_) #[true, true, false, false, false] rfl rfl (by kernel_rfl) (fun _ _ _ h => h) (Or.inl ⟨by rfl, ?_⟩) hHeld ?_ ?_; rotate_left; (focus rintro w' ⟨s0, s1, s2, s3⟩; go_simp; with_reducible rfl); rotate_left; (focus simp only [pt, i64_w, i32_w]; rfl)
        refine one_ (i := 2) (N := some 65) #[true, true, true, false, false] rfl rfl (by kernel_rfl) (by decide) (fun K hK => ?_)
        refine goes_ Tryz.func8 (by kernel_rfl) rfl #[.agg #[.slice A0_0 l0_0.length c0_0, .slice A0_1 l0_1.length c0_1]] (by rfl) rfl rfl gA ?_
        with_reducible refine (laws_toBase.calls kj46 _ _ l0_0 _ _ l0_1 t408 t411 _ ?side1 ?side2 ?side3 ?side4 A90.out).mono ?_
        (case side1 => exact cB HR0_0)
        (case side2 => exact HC0_0.out)
        (case side3 => exact cB HR0_1)
        (case side4 => exact HC0_1.out)
        rintro e w96 ⟨v409, v412, rfl, ho0, ho1, hb⟩
        refine ⟨_, rfl, ?_⟩
        have n0_ := Aside0.mk (Kd.R_below (pR HO_8) hb)
        have n1_ := Aside0.mk (Kd.R_below (pR HO_11) hb)
        have n2_ := Aside0.mk (Kd.S_elder' (pS HO_399000) (Kd.S_base ho0) hb)
        have n3_ := Aside0.mk (Kd.R_elder' (pR HO_399001) (Kd.R_base ho1) hb)
        have n4_ := Aside0.mk (Kd.S_lower (Kd.S_new' ho0 (Kd.S_lt (pS HO_399000))) (below_size (w := w) bW))
        have n5_ := Aside0.mk (Kd.R_lower (Kd.R_new' ho1 (Kd.R_lt (pR HO_399001))) (below_size (w := w) bW))
        have n6_ := Aside0.mk (kb BK372 hb)
        have n7_ := Aside0.mk (kb BK373 hb)
        have n8_ := Aside0.mk (kb BK374 hb)
        have n9_ := Aside0.mk (kb BK398 hb)
        have n10_ := Aside0.mk (below_step (w := w) bW hb)
        clear HO_8
        clear HO_11
        clear HO_399000
        clear HO_399001
        clear BK372
        clear BK373
        clear BK374
        clear BK398
        clear HB
        have HO_8 := n0_
        have HO_11 := n1_
        have HO_399000 := n2_
        have HO_399001 := n3_
        have HO410 := n4_
        have HO413 := n5_
        have BK372 := n6_
        have BK373 := n7_
        have BK374 := n8_
        have BK398 := n9_
        have HB := n10_
        clear n0_ n1_ n2_ n3_ n4_ n5_ n6_ n7_ n8_ n9_ n10_
        (try clear hb)
        (try clear hb2)
        (try clear hk)
        (try clear hi)
        (try clear ho0)
        (try clear ho1)
        obtain ⟨Ao97, co97, eo97⟩ := Kd.S_slice HO410.out
        (first | subst eo97 | (injection eo97 with f1_ f2_ f3_; have f4_ := f1_.symm; have f5_ := f3_.symm; clear f1_ f2_ f3_; subst f4_; subst f5_))
        obtain ⟨Ao98, co98, eo98⟩ := Kd.R_slice HO413.out
        (first | subst eo98 | (injection eo98 with f1_ f2_ f3_; have f4_ := f1_.symm; have f5_ := f3_.symm; clear f1_ f2_ f3_; subst f4_; subst f5_))
        refine hK.out _ _ ⟨(blk_cell BK398.out 0).trans rfl, (blk_cell BK398.out 1).trans rfl, (blk_cell BK372.out 0).trans rfl, (blk_cell BK372.out 1).trans rfl⟩ (fun hHeld => ?_)
        clear hK K
        refine norm_ (a' := ?_) ?_ ?_
        rotate_left
        ·show Act.put _ (some 65) _ = _
         simp only [Act.put, List.setIfInBounds_toArray, List.set_cons_zero, List.set_cons_succ, i64_w, i32_w]
         rfl
        refine one_ (i := 3) (N := some 66) #[true, true, true, true, false] rfl rfl (by kernel_rfl) (by decide) (fun K hK => ?_)
        refine goes_ Tryz.func12 (by kernel_rfl) rfl #[.agg #[.slice Ao70 t392.length co70, .slice Ao75 t395.length co75], .agg #[.slice Ao97 t408.length co97, .slice Ao98 t411.length co98]] (by rfl) rfl rfl gA ?_
        with_reducible refine (laws_eqBase.calls kj46 _ _ t392 _ _ t395 _ _ t408 _ _ t411 true _ ?side1 ?side2 ?side3 ?side4 ?side5 ?side6 ?side7 ?side8 A91.out).mono ?_
        (case side1 => repeat (first | exact (Kd.S_reads' HO_399000.out).2.2 | (with_reducible refine Kd.C_alloc ?_ _) | (with_reducible refine Kd.C_drewN ?_ _) | (with_reducible refine Kd.C_drew ?_)))
        (case side2 => exact (Kd.S_reads' HO_399000.out).2.1)
        (case side3 => repeat (first | exact (Kd.R_reads' HO_399001.out).2.2 | (with_reducible refine Kd.C_alloc ?_ _) | (with_reducible refine Kd.C_drewN ?_ _) | (with_reducible refine Kd.C_drew ?_)))
        (case side4 => exact (Kd.R_reads' HO_399001.out).2.1)
        (case side5 => repeat (first | exact (Kd.S_reads' HO410.out).2.2 | (with_reducible refine Kd.C_alloc ?_ _) | (with_reducible refine Kd.C_drewN ?_ _) | (with_reducible refine Kd.C_drew ?_)))
        (case side6 => exact (Kd.S_reads' HO410.out).2.1)
        (case side7 => repeat (first | exact (Kd.R_reads' HO413.out).2.2 | (with_reducible refine Kd.C_alloc ?_ _) | (with_reducible refine Kd.C_drewN ?_ _) | (with_reducible refine Kd.C_drew ?_)))
        (case side8 => exact (Kd.R_reads' HO413.out).2.1)
        rintro e w99 ⟨rfl, hb⟩
        refine ⟨_, rfl, ?_⟩
        have n0_ := Aside0.mk (Kd.R_below (pR HO_8) hb)
        have n1_ := Aside0.mk (Kd.R_below (pR HO_11) hb)
        have n2_ := Aside0.mk (Kd.S_below (pS HO_399000) hb)
        have n3_ := Aside0.mk (Kd.R_below (pR HO_399001) hb)
        have n4_ := Aside0.mk (Kd.S_below (pS HO410) hb)
        have n5_ := Aside0.mk (Kd.R_below (pR HO413) hb)
        have n6_ := Aside0.mk (kb BK372 hb)
        have n7_ := Aside0.mk (kb BK373 hb)
        have n8_ := Aside0.mk (kb BK374 hb)
        have n9_ := Aside0.mk (kb BK398 hb)
        have n10_ := Aside0.mk (below_step (w := w) bW hb)
        clear HO_8
        clear HO_11
        clear HO_399000
        clear HO_399001
        clear HO410
        clear HO413
        clear BK372
        clear BK373
        clear BK374
        clear BK398
        clear HB
        have HO_8 := n0_
        have HO_11 := n1_
        have HO_399000 := n2_
        have HO_399001 := n3_
        have HO410 := n4_
        have HO413 := n5_
        have BK372 := n6_
        have BK373 := n7_
        have BK374 := n8_
        have BK398 := n9_
        have HB := n10_
        clear n0_ n1_ n2_ n3_ n4_ n5_ n6_ n7_ n8_ n9_ n10_
        (try clear hb)
        (try clear hb2)
        (try clear hk)
        (try clear hi)
        refine hK.out _ _ ⟨(blk_cell BK398.out 0).trans rfl, (blk_cell BK398.out 1).trans rfl, (blk_cell BK372.out 0).trans rfl, (blk_cell BK372.out 1).trans rfl⟩ (fun hHeld => ?_)
        clear hK K
        refine norm_ (a' := ?_) ?_ ?_
        rotate_left
        ·show Act.put _ (some 66) _ = _
         simp only [Act.put, List.setIfInBounds_toArray, List.set_cons_zero, List.set_cons_succ, i64_w, i32_w]
         rfl
        refine pure_ (i := 4) (N := some 67) (v := ?_) (a' := ?_) #[true, true, true, true, true] rfl rfl (by kernel_rfl) (fun _ _ _ h => h) (Or.inl ⟨by rfl, ?_⟩) ?_ ?_; rotate_left; (focus intro w'; go_simp; with_reducible rfl); rotate_left; (focus simp only [pt, i64_w, i32_w]; rfl)
        refine done_ (by kernel_rfl) ?_
        have hnb100 := NB398_372.out
        have hnc100 := NB372_398.out
        have hnb101 := NB398_373.out
        have hnc101 := NB373_398.out
        have hnb102 := NB398_374.out
        have hnc102 := NB374_398.out
        have hcz103_0 : w99.cell? ⟨gb398, 0, none⟩ = some (.slice Ao70 t392.length co70) := (blk_cell BK398.out 0).trans rfl
        have hcz103_1 : w99.cell? ⟨gb398, 1, none⟩ = some (.slice Ao75 t395.length co75) := (blk_cell BK398.out 1).trans rfl
        have hfz103_0 := blk_frozen BK398.out 0
        have hfz103_1 := blk_frozen BK398.out 1
        go_upto_region 20 with (first | ((with_reducible refine gate_callee (f := 13) rfl ?_); refine goesL_ (some 70) rfl rfl Tryz.func13 (by kernel_rfl) rfl #[.agg #[.slice Ao70 t392.length co70, .slice Ao75 t395.length co75], .int .i64 1] rfl gA ?_; (with_reducible refine (laws_markBase.calls kj46 (fun k_ => (((((((((True ∧ some k_ ≠ (.slice Ao97 t408.length co97 : Value).ownBlock) ∧ some k_ ≠ (v389 : Value).ownBlock) ∧ some k_ ≠ (v404 : Value).ownBlock) ∧ some k_ ≠ (.slice Ao75 t395.length co75 : Value).ownBlock) ∧ some k_ ≠ (.slice Ao98 t411.length co98 : Value).ownBlock) ∧ k_ ≠ gb372) ∧ k_ ≠ gb373) ∧ k_ ≠ gb374) ∧ k_ ≠ gb398)) (.slice Ao70 t392.length co70) t392 (fun k_ => some k_ = (.slice Ao75 t395.length co75 : Value).ownBlock) (.slice Ao75 t395.length co75) t395 1 t415 w _ ?side1 ?side2 ?side3 A93.out).mono ?_); (case side1 => repeat (first | (with_reducible first | exact HB.out | apply below_alloc | apply pw_below_drewN | apply below_drew1 | refine below_set ?_ GE372.out | refine below_set ?_ GE373.out | refine below_set ?_ GE374.out | refine below_set ?_ GE398.out) | exact HB.out)); (case side2 => exact (Kd.S_types (Kd.S_types (Kd.S_types (Kd.S_types (Kd.S_apart' (Kd.S_apart' (Kd.S_apart' (Kd.S_apart' HO_399000.out (Kd.R_typed HO_8.out) (by decide)) (Kd.R_typed HO_11.out) (by decide)) (Kd.R_typed HO_399001.out) (by decide)) (Kd.R_typed HO413.out) (by decide)) BK372.out (by decide)) BK373.out (by decide)) BK374.out (by decide)) BK398.out (by decide))); (case side3 => exact Kd.R_tight rfl HO_399001.out); rintro e w104 ⟨rfl, hb, hkp⟩; refine ⟨_, rfl, ?_⟩; have n0_ := Aside0.mk (Kd.R_mono (ok' := fun k_ => some k_ ≠ (v404 : Value).ownBlock) (Kd.R_keptB ((Kd.R_apart' (Kd.R_mono (ok' := fun k_ => some k_ ≠ (v404 : Value).ownBlock ∧ ¬ ((((((((((True ∧ some k_ ≠ (.slice Ao97 t408.length co97 : Value).ownBlock) ∧ some k_ ≠ (v389 : Value).ownBlock) ∧ some k_ ≠ (v404 : Value).ownBlock) ∧ some k_ ≠ (.slice Ao75 t395.length co75 : Value).ownBlock) ∧ some k_ ≠ (.slice Ao98 t411.length co98 : Value).ownBlock) ∧ k_ ≠ gb372) ∧ k_ ≠ gb373) ∧ k_ ≠ gb374) ∧ k_ ≠ gb398))) (Kd.R_tight2 rfl HO_8.out) (fun k_ hk => ⟨hk.2, fun hs_ => (hs_.1.1.1.1.1.1.1.2) hk.1⟩)) (Kd.R_typed HO_399001.out) (by decide))) hkp (fun k_ hk_ hs_ => Or.elim hs_ (fun e_ => (hk_.1.2) e_) (fun e_ => (hk_.2) e_))) (fun k_ hk_ => hk_.1.1.1)); have n1_ := Aside0.mk (Kd.R_mono (ok' := fun k_ => some k_ ≠ (v389 : Value).ownBlock) (Kd.R_keptB ((Kd.R_apart' (Kd.R_mono (ok' := fun k_ => some k_ ≠ (v389 : Value).ownBlock ∧ ¬ ((((((((((True ∧ some k_ ≠ (.slice Ao97 t408.length co97 : Value).ownBlock) ∧ some k_ ≠ (v389 : Value).ownBlock) ∧ some k_ ≠ (v404 : Value).ownBlock) ∧ some k_ ≠ (.slice Ao75 t395.length co75 : Value).ownBlock) ∧ some k_ ≠ (.slice Ao98 t411.length co98 : Value).ownBlock) ∧ k_ ≠ gb372) ∧ k_ ≠ gb373) ∧ k_ ≠ gb374) ∧ k_ ≠ gb398))) (Kd.R_tight2 rfl HO_11.out) (fun k_ hk => ⟨hk.2, fun hs_ => (hs_.1.1.1.1.1.1.2) hk.1⟩)) (Kd.R_typed HO_399001.out) (by decide))) hkp (fun k_ hk_ hs_ => Or.elim hs_ (fun e_ => (hk_.1.2) e_) (fun e_ => (hk_.2) e_))) (fun k_ hk_ => hk_.1.1.1)); have n2_ := Aside0.mk (blk_kept (kB BK372) hkp (fun hs_ => Or.elim hs_ (fun e_ => (fun e_ => (e_.1.1.1.2) rfl) e_) (fun e_ => (fun e_ => (Kd.R_ne HO_399001.out BK372.out (by decide)) e_) e_))); have n3_ := Aside0.mk (blk_kept (kB BK373) hkp (fun hs_ => Or.elim hs_ (fun e_ => (fun e_ => (e_.1.1.2) rfl) e_) (fun e_ => (fun e_ => (Kd.R_ne HO_399001.out BK373.out (by decide)) e_) e_))); have n4_ := Aside0.mk (blk_kept (kB BK374) hkp (fun hs_ => Or.elim hs_ (fun e_ => (fun e_ => (e_.1.2) rfl) e_) (fun e_ => (fun e_ => (Kd.R_ne HO_399001.out BK374.out (by decide)) e_) e_))); have n5_ := Aside0.mk (blk_kept (kB BK398) hkp (fun hs_ => Or.elim hs_ (fun e_ => (fun e_ => (e_.2) rfl) e_) (fun e_ => (fun e_ => (Kd.R_ne HO_399001.out BK398.out (by decide)) e_) e_))); have n6_ := Aside0.mk (Kd.R_mono (ok' := fun k_ => True) (Kd.R_keptB ((Kd.R_mono (ok' := fun k_ => (True ∧ some k_ ≠ (.slice Ao75 t395.length co75 : Value).ownBlock) ∧ ¬ ((((((((((True ∧ some k_ ≠ (.slice Ao97 t408.length co97 : Value).ownBlock) ∧ some k_ ≠ (v389 : Value).ownBlock) ∧ some k_ ≠ (v404 : Value).ownBlock) ∧ some k_ ≠ (.slice Ao75 t395.length co75 : Value).ownBlock) ∧ some k_ ≠ (.slice Ao98 t411.length co98 : Value).ownBlock) ∧ k_ ≠ gb372) ∧ k_ ≠ gb373) ∧ k_ ≠ gb374) ∧ k_ ≠ gb398))) (Kd.R_tight2 rfl HO413.out) (fun k_ hk => ⟨hk.2, fun hs_ => (hs_.1.1.1.1.2) hk.1⟩))) hkp (fun k_ hk_ hs_ => Or.elim hs_ (fun e_ => (hk_.2) e_) (fun e_ => (hk_.1.2) e_))) (fun k_ hk_ => trivial)); have n7_ := Aside0.mk (hb); clear HO_8; clear HO_11; clear BK372; clear BK373; clear BK374; clear BK398; clear HO413; clear HB; clear HO_399000; clear HO_399001; clear HO410; have HO_8 := n0_; have HO_11 := n1_; have BK372 := n2_; have BK373 := n3_; have BK374 := n4_; have BK398 := n5_; have HO413 := n6_; have HB := n7_; clear n0_ n1_ n2_ n3_ n4_ n5_ n6_ n7_; (try clear hb); (try clear hkp)))
        (try simp only [Act.put, List.setIfInBounds_toArray, List.set_cons_zero, List.set_cons_succ])
        go_cut [83] (fun v83 wc => ∃ (kq : Nat) (x83_93 : Bool), v83 = .bool x83_93 ∧ Aside0 (laws_FnExactDiffSnaps.j1 kq t388 t391 t403 x83_93 l0_0 l0_1 a1_0 a1_1 a2_0 a2_1 = some true) ∧ Aside0 (kq ≤ kj46) ∧ Aside0 (Kd.R k68 68 wc w.heap.size (fun k_ => some k_ ≠ (v404 : Value).ownBlock) v389 t388) ∧ Aside0 (Kd.R k68 68 wc w.heap.size (fun k_ => some k_ ≠ (v389 : Value).ownBlock) v404 t403) ∧ Aside0 (wc.heap[gb372]? = some (.cells #[(.slice A0_0 l0_0.length c0_0), (.slice A0_1 l0_1.length c0_1)] 25 (0, 0))) ∧ Aside0 (wc.heap[gb373]? = some (.cells #[.string a1_0, .int .i64 a1_1] 27 (0, 0))) ∧ Aside0 (wc.heap[gb374]? = some (.cells #[.string a2_0, .int .i64 a2_1] 27 (0, 0))) ∧ Aside0 (Below w.heap.size w wc))
        case first =>
         have H := HC94.out
         clear HC94
         by_cases c105 : t415 < 0
         ·rw [if_pos c105] at H
          have c105b0 : decide (t415 < 0) = true := decide_eq_true c105
          clear c105
          (first | rw [c105b0] | (simp only [i64_w, i32_w]; rw [c105b0]) | skip)
          have H' := Aside0.mk H
          clear H
          go_wp2
          go_meet
          case rel => exact ⟨_, (true), vE, H', ⟨by have := HJ46.out; first | omega | exact Nat.le_refl _⟩, ⟨by (with_reducible repeat (first | apply Kd.R_alloc | apply Kd.R_drewN | apply Kd.R_drew)); exact HO_8.out⟩, ⟨by (with_reducible repeat (first | apply Kd.R_alloc | apply Kd.R_drewN | apply Kd.R_drew)); exact HO_11.out⟩, ⟨by (with_reducible repeat (first | refine blk_drewN ?_ _ | refine blk_drew ?_ | refine blk_alloc ?_ _)); exact BK372.out⟩, ⟨by (with_reducible repeat (first | refine blk_drewN ?_ _ | refine blk_drew ?_ | refine blk_alloc ?_ _)); exact BK373.out⟩, ⟨by (with_reducible repeat (first | refine blk_drewN ?_ _ | refine blk_drew ?_ | refine blk_alloc ?_ _)); exact BK374.out⟩, ⟨bW⟩⟩
         ·rw [if_neg c105] at H
          have c105b0 : decide (t415 < 0) = false := decide_eq_false c105
          clear c105
          (first | rw [c105b0] | (simp only [i64_w, i32_w]; rw [c105b0]) | skip)
          replace H := Option.bind_eq_some_iff.mp H
          obtain ⟨t416, A1060, H⟩ := H
          replace H : (if t416 = true then (laws_FnExactDiffSnaps.j1 kj46 t388 t391 t403 (t406 != t391) l0_0 l0_1 a1_0 a1_1 a2_0 a2_1) else (laws_FnExactDiffSnaps.j1 kj46 t388 t391 t403 true l0_0 l0_1 a1_0 a1_1 a2_0 a2_1)) = some true := H
          have A106 := Aside0.mk A1060
          clear A1060
          by_cases c107 : t416 = true
          ·subst c107
           have H1 : (laws_FnExactDiffSnaps.j1 kj46 t388 t391 t403 (t406 != t391) l0_0 l0_1 a1_0 a1_1 a2_0 a2_1) = some true := by rw [if_pos rfl] at H; exact H
           clear H
           have H := H1
           clear H1
           have H' := Aside0.mk H
           clear H
           obtain ⟨Ao108, co108, eo108⟩ := Kd.R_slice HO_11.out
           subst eo108
           obtain ⟨Ao109, co109, eo109⟩ := Kd.R_slice HO_8.out
           subst eo109
           go_wp2_with (first | (go_at_call 11; (with_reducible refine (laws_eqEditS.calls kj46 _ _ t403 _ _ t388 true _ ?side1 ?side2 ?side3 ?side4 A106.out).mono ?_); (case side1 => repeat (first | exact (Kd.R_reads' HO_11.out).2.2 | (with_reducible refine Kd.C_alloc ?_ _) | (with_reducible refine Kd.C_drewN ?_ _) | (with_reducible refine Kd.C_drew ?_))); (case side2 => exact (Kd.R_reads' HO_11.out).2.1); (case side3 => repeat (first | exact (Kd.R_reads' HO_8.out).2.2 | (with_reducible refine Kd.C_alloc ?_ _) | (with_reducible refine Kd.C_drewN ?_ _) | (with_reducible refine Kd.C_drew ?_))); (case side4 => exact (Kd.R_reads' HO_8.out).2.1); rintro e w110 ⟨rfl, hb⟩; have n0_ := Aside0.mk (Kd.R_below (pR HO_8) hb); have n1_ := Aside0.mk (Kd.R_below (pR HO_11) hb); have n2_ := Aside0.mk (Kd.R_below (pR HO413) hb); have n3_ := Aside0.mk (kb BK372 hb); have n4_ := Aside0.mk (kb BK373 hb); have n5_ := Aside0.mk (kb BK374 hb); have n6_ := Aside0.mk (kb BK398 hb); have n7_ := Aside0.mk (below_step (w := w) bW hb); clear HO_8; clear HO_11; clear HO413; clear BK372; clear BK373; clear BK374; clear BK398; clear HB; have HO_8 := n0_; have HO_11 := n1_; have HO413 := n2_; have BK372 := n3_; have BK373 := n4_; have BK374 := n5_; have BK398 := n6_; have HB := n7_; clear n0_ n1_ n2_ n3_ n4_ n5_ n6_ n7_; (try clear hb); (try clear hb2); (try clear hk); (try clear hi)))
           go_meet
           case rel => exact ⟨_, ((t406 != t391)), vE, H', ⟨by have := HJ46.out; first | omega | exact Nat.le_refl _⟩, ⟨by (with_reducible repeat (first | apply Kd.R_alloc | apply Kd.R_drewN | apply Kd.R_drew)); exact HO_8.out⟩, ⟨by (with_reducible repeat (first | apply Kd.R_alloc | apply Kd.R_drewN | apply Kd.R_drew)); exact HO_11.out⟩, ⟨by (with_reducible repeat (first | refine blk_drewN ?_ _ | refine blk_drew ?_ | refine blk_alloc ?_ _)); exact BK372.out⟩, ⟨by (with_reducible repeat (first | refine blk_drewN ?_ _ | refine blk_drew ?_ | refine blk_alloc ?_ _)); exact BK373.out⟩, ⟨by (with_reducible repeat (first | refine blk_drewN ?_ _ | refine blk_drew ?_ | refine blk_alloc ?_ _)); exact BK374.out⟩, ⟨bW⟩⟩
          ·replace c107 := Bool.eq_false_iff.mpr c107
           subst c107
           have H1 : (laws_FnExactDiffSnaps.j1 kj46 t388 t391 t403 true l0_0 l0_1 a1_0 a1_1 a2_0 a2_1) = some true := by rw [if_neg (show ¬ (false = true) by decide)] at H; exact H
           clear H
           have H := H1
           clear H1
           have H' := Aside0.mk H
           clear H
           obtain ⟨Ao111, co111, eo111⟩ := Kd.R_slice HO_11.out
           subst eo111
           obtain ⟨Ao112, co112, eo112⟩ := Kd.R_slice HO_8.out
           subst eo112
           go_wp2_with (first | (go_at_call 11; (with_reducible refine (laws_eqEditS.calls kj46 _ _ t403 _ _ t388 false _ ?side1 ?side2 ?side3 ?side4 A106.out).mono ?_); (case side1 => repeat (first | exact (Kd.R_reads' HO_11.out).2.2 | (with_reducible refine Kd.C_alloc ?_ _) | (with_reducible refine Kd.C_drewN ?_ _) | (with_reducible refine Kd.C_drew ?_))); (case side2 => exact (Kd.R_reads' HO_11.out).2.1); (case side3 => repeat (first | exact (Kd.R_reads' HO_8.out).2.2 | (with_reducible refine Kd.C_alloc ?_ _) | (with_reducible refine Kd.C_drewN ?_ _) | (with_reducible refine Kd.C_drew ?_))); (case side4 => exact (Kd.R_reads' HO_8.out).2.1); rintro e w113 ⟨rfl, hb⟩; have n0_ := Aside0.mk (Kd.R_below (pR HO_8) hb); have n1_ := Aside0.mk (Kd.R_below (pR HO_11) hb); have n2_ := Aside0.mk (Kd.R_below (pR HO413) hb); have n3_ := Aside0.mk (kb BK372 hb); have n4_ := Aside0.mk (kb BK373 hb); have n5_ := Aside0.mk (kb BK374 hb); have n6_ := Aside0.mk (kb BK398 hb); have n7_ := Aside0.mk (below_step (w := w) bW hb); clear HO_8; clear HO_11; clear HO413; clear BK372; clear BK373; clear BK374; clear BK398; clear HB; have HO_8 := n0_; have HO_11 := n1_; have HO413 := n2_; have BK372 := n3_; have BK373 := n4_; have BK374 := n5_; have BK398 := n6_; have HB := n7_; clear n0_ n1_ n2_ n3_ n4_ n5_ n6_ n7_; (try clear hb); (try clear hb2); (try clear hk); (try clear hi)))
           go_meet
           case rel => exact ⟨_, (true), vE, H', ⟨by have := HJ46.out; first | omega | exact Nat.le_refl _⟩, ⟨by (with_reducible repeat (first | apply Kd.R_alloc | apply Kd.R_drewN | apply Kd.R_drew)); exact HO_8.out⟩, ⟨by (with_reducible repeat (first | apply Kd.R_alloc | apply Kd.R_drewN | apply Kd.R_drew)); exact HO_11.out⟩, ⟨by (with_reducible repeat (first | refine blk_drewN ?_ _ | refine blk_drew ?_ | refine blk_alloc ?_ _)); exact BK372.out⟩, ⟨by (with_reducible repeat (first | refine blk_drewN ?_ _ | refine blk_drew ?_ | refine blk_alloc ?_ _)); exact BK373.out⟩, ⟨by (with_reducible repeat (first | refine blk_drewN ?_ _ | refine blk_drew ?_ | refine blk_alloc ?_ _)); exact BK374.out⟩, ⟨bW⟩⟩
        case rest =>
         clear HC94
         try clear c1
         try clear p2
         try clear c3
         try clear c5
         try clear c6
         try clear c7
         try clear c8
         try clear c9
         try clear c10
         try clear c11
         try clear c12
         try clear c13
         try clear c51
         try clear c52
         try clear c55
         try clear c71
         try clear c72
         try clear c73
         try clear c82
         try clear c89
         try clear c92
         try clear c100
         try clear c101
         try clear c102
         try clear c105
         try clear c105b0
         try clear c107
         try clear hcz103_0
         try clear hcz103_1
         try clear hcz53_0
         try clear hcz53_1
         try clear hcz56_0
         try clear hcz56_1
         try clear hcz58_0
         try clear hcz58_1
         try clear hcz67_0
         try clear hcz67_1
         try clear hcz74_0
         try clear hcz74_1
         try clear hfz103_0
         try clear hfz103_1
         try clear hfz53_0
         try clear hfz53_1
         try clear hfz56_0
         try clear hfz56_1
         try clear hfz58_0
         try clear hfz58_1
         try clear hfz67_0
         try clear hfz67_1
         try clear hfz74_0
         try clear hfz74_1
         try clear p2
         obtain ⟨kq, x83_93, rfl, HA, HJ93, HO_8, HO_11, BK372, BK373, BK374, HB⟩ := hcut
         cases kq with
         | zero => exact absurd HA.out (by simp [laws_FnExactDiffSnaps.j1])
         | succ kj93 =>
          have H := HA.out
          clear HA
          simp only [laws_FnExactDiffSnaps.j1] at H
          by_cases c114 : x83_93 = true
          ·subst c114
           have H1 : (some false) = some true := by rw [if_pos rfl] at H; exact H
           exact absurd H1 (by simp)
          ·replace c114 := Bool.eq_false_iff.mpr c114
           subst c114
           have H1 : ((laws_markEditS.f kj93 t403 1).bind fun bt417 => ((laws_heldEditS.f kj93 bt417.2 1).bind fun t419 => (if t419 < 0 then (some false) else (if t419 = bt417.1 then ((laws_toBase.f kj93 l0_0 l0_1).bind fun bt420 => ((laws_toSnap.f a1_0 a1_1).bind fun bt426 => ((laws_toSnap.f a2_0 a2_1).bind fun bt428 => ((impl_DiffSnaps.f kj93 bt420.1 bt420.2 bt426.1 bt426.2 bt428.1 bt428.2).bind fun bt430 => ((laws_eqEditS.f kj93 bt430.1 t388).bind fun t434 => (if t434 = true then (laws_FnExactDiffSnaps.j2 kj93 bt417.2 bt417.1 (bt430.2 != t391)) else (laws_FnExactDiffSnaps.j2 kj93 bt417.2 bt417.1 true))))))) else (some false))))) = some true := by rw [if_neg (show ¬ (false = true) by decide)] at H; exact H
           clear H
           have H := H1
           clear H1
           replace H := Option.bind_eq_some_iff.mp H
           obtain ⟨⟨t417, t418⟩, A1150, H⟩ := H
           replace H : ((laws_heldEditS.f kj93 t418 1).bind fun t419 => (if t419 < 0 then (some false) else (if t419 = t417 then ((laws_toBase.f kj93 l0_0 l0_1).bind fun bt420 => ((laws_toSnap.f a1_0 a1_1).bind fun bt426 => ((laws_toSnap.f a2_0 a2_1).bind fun bt428 => ((impl_DiffSnaps.f kj93 bt420.1 bt420.2 bt426.1 bt426.2 bt428.1 bt428.2).bind fun bt430 => ((laws_eqEditS.f kj93 bt430.1 t388).bind fun t434 => (if t434 = true then (laws_FnExactDiffSnaps.j2 kj93 t418 t417 (bt430.2 != t391)) else (laws_FnExactDiffSnaps.j2 kj93 t418 t417 true))))))) else (some false)))) = some true := H
           have A115 := Aside0.mk A1150
           clear A1150
           replace H := Option.bind_eq_some_iff.mp H
           obtain ⟨t419, A1160, H⟩ := H
           replace H : (if t419 < 0 then (some false) else (if t419 = t417 then ((laws_toBase.f kj93 l0_0 l0_1).bind fun bt420 => ((laws_toSnap.f a1_0 a1_1).bind fun bt426 => ((laws_toSnap.f a2_0 a2_1).bind fun bt428 => ((impl_DiffSnaps.f kj93 bt420.1 bt420.2 bt426.1 bt426.2 bt428.1 bt428.2).bind fun bt430 => ((laws_eqEditS.f kj93 bt430.1 t388).bind fun t434 => (if t434 = true then (laws_FnExactDiffSnaps.j2 kj93 t418 t417 (bt430.2 != t391)) else (laws_FnExactDiffSnaps.j2 kj93 t418 t417 true))))))) else (some false))) = some true := H
           have A116 := Aside0.mk A1160
           clear A1160
           by_cases c117 : t419 < 0
           ·rw [if_pos c117] at H
            exact absurd H (by simp)
           ·rw [if_neg c117] at H
            have c117b0 : decide (t419 < 0) = false := decide_eq_false c117
            clear c117
            by_cases c121 : t419 = t417
            ·rw [if_pos c121] at H
             have c121b0 : (t419 == t417) = true := beq_iff_eq.mpr c121
             have c121b1 : (t419 != t417) = false := bne_eq_false_iff_eq.mpr c121
             clear c121
             replace H := Option.bind_eq_some_iff.mp H
             obtain ⟨⟨t420, t423⟩, A1220, H⟩ := H
             replace H : ((laws_toSnap.f a1_0 a1_1).bind fun bt426 => ((laws_toSnap.f a2_0 a2_1).bind fun bt428 => ((impl_DiffSnaps.f kj93 t420 t423 bt426.1 bt426.2 bt428.1 bt428.2).bind fun bt430 => ((laws_eqEditS.f kj93 bt430.1 t388).bind fun t434 => (if t434 = true then (laws_FnExactDiffSnaps.j2 kj93 t418 t417 (bt430.2 != t391)) else (laws_FnExactDiffSnaps.j2 kj93 t418 t417 true)))))) = some true := H
             have A122 := Aside0.mk A1220
             clear A1220
             replace H := Option.bind_eq_some_iff.mp H
             obtain ⟨⟨t426, t427⟩, A1230, H⟩ := H
             replace H : ((laws_toSnap.f a2_0 a2_1).bind fun bt428 => ((impl_DiffSnaps.f kj93 t420 t423 t426 t427 bt428.1 bt428.2).bind fun bt430 => ((laws_eqEditS.f kj93 bt430.1 t388).bind fun t434 => (if t434 = true then (laws_FnExactDiffSnaps.j2 kj93 t418 t417 (bt430.2 != t391)) else (laws_FnExactDiffSnaps.j2 kj93 t418 t417 true))))) = some true := H
             have A123 := Aside0.mk A1230
             clear A1230
             replace H := Option.bind_eq_some_iff.mp H
             obtain ⟨⟨t428, t429⟩, A1240, H⟩ := H
             replace H : ((impl_DiffSnaps.f kj93 t420 t423 t426 t427 t428 t429).bind fun bt430 => ((laws_eqEditS.f kj93 bt430.1 t388).bind fun t434 => (if t434 = true then (laws_FnExactDiffSnaps.j2 kj93 t418 t417 (bt430.2 != t391)) else (laws_FnExactDiffSnaps.j2 kj93 t418 t417 true)))) = some true := H
             have A124 := Aside0.mk A1240
             clear A1240
             replace H := Option.bind_eq_some_iff.mp H
             obtain ⟨⟨t430, t433⟩, A1250, H⟩ := H
             replace H : ((laws_eqEditS.f kj93 t430 t388).bind fun t434 => (if t434 = true then (laws_FnExactDiffSnaps.j2 kj93 t418 t417 (t433 != t391)) else (laws_FnExactDiffSnaps.j2 kj93 t418 t417 true))) = some true := H
             have A125 := Aside0.mk A1250
             clear A1250
             have HC126 := Aside0.mk H
             clear H
             obtain ⟨Ao127, co127, eo127⟩ := Kd.R_slice HO_11.out
             subst eo127
             try go_wp2_with (first | ((with_reducible refine gate_callee (f := 14) rfl ?_); refine goesL_ (some 86) rfl rfl Tryz.func14 (by kernel_rfl) rfl #[.slice Ao127 t403.length co127, .int .i64 1] rfl gA ?_; (with_reducible refine (laws_markEditS.calls kj93 (fun k_ => some k_ = (.slice Ao127 t403.length co127 : Value).ownBlock) (.slice Ao127 t403.length co127) t403 1 t417 t418 w _ ?side1 ?side2 A115.out).mono ?_); (case side1 => repeat (first | (with_reducible first | exact HB.out | apply below_alloc | apply pw_below_drewN | apply below_drew1 | refine below_set ?_ GE372.out | refine below_set ?_ GE373.out | refine below_set ?_ GE374.out) | exact HB.out)); (case side2 => exact Kd.R_tight rfl HO_11.out); rintro e w128 ⟨rfl, hy0, hb, hkp⟩; refine ⟨_, rfl, ?_⟩; have n0_ := Aside0.mk (Kd.R_mono (ok' := fun k_ => some k_ ≠ (.slice Ao127 t403.length co127 : Value).ownBlock) (Kd.R_keptB (HO_8.out) hkp (fun k_ hk_ hs_ => (hk_) hs_)) (fun k_ hk_ => hk_.1)); have n1_ := Aside0.mk (Kd.R_reok rfl hy0 (fun k_ e_ => HO_11.out.1 k_ e_)); have n2_ := Aside0.mk (blk_kept (kB BK372) hkp (fun hs_ => (fun e_ => (Kd.R_ne HO_11.out BK372.out (by decide)) e_) hs_)); have n3_ := Aside0.mk (blk_kept (kB BK373) hkp (fun hs_ => (fun e_ => (Kd.R_ne HO_11.out BK373.out (by decide)) e_) hs_)); have n4_ := Aside0.mk (blk_kept (kB BK374) hkp (fun hs_ => (fun e_ => (Kd.R_ne HO_11.out BK374.out (by decide)) e_) hs_)); have n5_ := Aside0.mk (hb); clear HO_8; clear HO_11; clear BK372; clear BK373; clear BK374; clear HB; have HO_8 := n0_; have HO_11 := n1_; have BK372 := n2_; have BK373 := n3_; have BK374 := n4_; have HB := n5_; clear n0_ n1_ n2_ n3_ n4_ n5_; (try clear hb); (try clear hkp); (try clear hy0)) | ((with_reducible refine gate_callee (f := 15) rfl ?_); refine goesL_ (some 89) rfl rfl Tryz.func15 (by kernel_rfl) rfl #[.slice Ao127 t418.length co127, .int .i64 1] rfl (by (try simp only [List.map_toArray, List.map_cons, List.map_nil]); first | done | (rw [show t418.length = t403.length from (Kd.R_reads' HO_11.out).1.symm] <;> rfl) | rfl | (simp only [List.length_drop, List.length_take]; rfl)) ?_; (with_reducible refine (laws_heldEditS.calls kj93 _ _ t418 1 t419 _ ?side1 ?side2 A116.out).mono ?_); (case side1 => repeat (first | exact (Kd.R_reads' HO_11.out).2.2 | (with_reducible refine Kd.C_alloc ?_ _) | (with_reducible refine Kd.C_drewN ?_ _) | (with_reducible refine Kd.C_drew ?_))); (case side2 => rw [show t418.length = t403.length from (Kd.R_reads' HO_11.out).1.symm]; exact (Kd.R_reads' HO_11.out).2.1); rintro e w129 ⟨rfl, hb⟩; refine ⟨_, rfl, ?_⟩; have n0_ := Aside0.mk (Kd.R_below (pR HO_8) hb); have n1_ := Aside0.mk (Kd.R_below (pR HO_11) hb); have n2_ := Aside0.mk (kb BK372 hb); have n3_ := Aside0.mk (kb BK373 hb); have n4_ := Aside0.mk (kb BK374 hb); have n5_ := Aside0.mk (below_step (w := w) bW hb); clear HO_8; clear HO_11; clear BK372; clear BK373; clear BK374; clear HB; have HO_8 := n0_; have HO_11 := n1_; have BK372 := n2_; have BK373 := n3_; have BK374 := n4_; have HB := n5_; clear n0_ n1_ n2_ n3_ n4_ n5_; (try clear hb); (try clear hb2); (try clear hk); (try clear hi)))
             have n0_ := Aside0.mk (Kd.R_drew HO_8.out)
             have n1_ := Aside0.mk (Kd.R_drew HO_11.out)
             have n2_ := Aside0.mk (blk_drew BK372.out)
             have n3_ := Aside0.mk (blk_drew BK373.out)
             have n4_ := Aside0.mk (blk_drew BK374.out)
             have n5_ := Aside0.mk (below_drew1 HB.out)
             clear HO_8
             clear HO_11
             clear BK372
             clear BK373
             clear BK374
             clear HB
             have HO_8 := n0_
             have HO_11 := n1_
             have BK372 := n2_
             have BK373 := n3_
             have BK374 := n4_
             have HB := n5_
             clear n0_ n1_ n2_ n3_ n4_ n5_
             refine start_ (n := 12) (S := fun w' => w'.cell? ⟨gb372, 0, none⟩ = some (.slice A0_0 l0_0.length c0_0) ∧ w'.cell? ⟨gb372, 1, none⟩ = some (.slice A0_1 l0_1.length c0_1) ∧ w'.cell? ⟨gb373, 0, none⟩ = some (.string a1_0) ∧ w'.cell? ⟨gb373, 1, none⟩ = some (.int .i64 a1_1) ∧ w'.cell? ⟨gb374, 0, none⟩ = some (.string a2_0) ∧ w'.cell? ⟨gb374, 1, none⟩ = some (.int .i64 a2_1)) (ds := []) #[false, false, false, false, false, false, false, false, false, false, false, false] (by kernel_rfl) rfl rfl ⟨(blk_cell BK372.out 0).trans rfl, (blk_cell BK372.out 1).trans rfl, (blk_cell BK373.out 0).trans rfl, (blk_cell BK373.out 1).trans rfl, (blk_cell BK374.out 0).trans rfl, (blk_cell BK374.out 1).trans rfl⟩ (fun hHeld => ?_); refine with_tabW laws_FnExactDiffSnaps.tab30 laws_FnExactDiffSnaps.bits30 (fun HT_ HW_ => ?_)
             generalize w129.drew = w130 at HO_8 HO_11 BK372 BK373 BK374 HB hHeld ⊢
             refine take_ (i := 0) (N := some 96) (v := ?_) (a' := ?_) #[true, false, false, false, false, false, false, false, false, false, false, false] rfl rfl (take_ofW HT_.out HW_.out (by kernel_rfl)) (fun _ _ _ h => h) (Or.inl ⟨by rfl, ?_⟩) hHeld ?_ ?_; rotate_left; (focus rintro w' ⟨s0, s1, s2, s3, s4, s5⟩; go_simp; with_reducible rfl); rotate_left; (focus simp only [pt, i64_w, i32_w]; rfl)
             refine take_ (i := 2) (N := some 98) (v := ?_) (a' := ?_) #[true, false, true, false, false, false, false, false, false, false, false, false] rfl rfl (take_ofW HT_.out HW_.out (by kernel_rfl)) (fun _ _ _ h => h) (Or.inl ⟨by rfl, ?_⟩) hHeld ?_ ?_; rotate_left; (focus rintro w' ⟨s0, s1, s2, s3, s4, s5⟩; go_simp; with_reducible rfl); rotate_left; (focus simp only [pt, i64_w, i32_w]; rfl)
             refine take_ (i := 4) (N := some 100) (v := ?_) (a' := ?_) #[true, false, true, false, true, false, false, false, false, false, false, false] rfl rfl (take_ofW HT_.out HW_.out (by kernel_rfl)) (fun _ _ _ h => h) (Or.inl ⟨by rfl, ?_⟩) hHeld ?_ ?_; rotate_left; (focus rintro w' ⟨s0, s1, s2, s3, s4, s5⟩; go_simp; with_reducible rfl); rotate_left; (focus simp only [pt, i64_w, i32_w]; rfl)
             refine one_ (i := 1) (N := some 97) #[true, true, true, false, true, false, false, false, false, false, false, false] rfl rfl (one_of HT_.out (by kernel_rfl)) (by decide) (fun K hK => ?_)
             refine goes_ Tryz.func8 (by kernel_rfl) rfl #[.agg #[.slice A0_0 l0_0.length c0_0, .slice A0_1 l0_1.length c0_1]] (by rfl) rfl rfl gA ?_
             with_reducible refine (laws_toBase.calls kj93 _ _ l0_0 _ _ l0_1 t420 t423 _ ?side1 ?side2 ?side3 ?side4 A122.out).mono ?_
             (case side1 => exact cB HR0_0)
             (case side2 => exact HC0_0.out)
             (case side3 => exact cB HR0_1)
             (case side4 => exact HC0_1.out)
             rintro e w131 ⟨v421, v424, rfl, ho0, ho1, hb⟩
             refine ⟨_, rfl, ?_⟩
             have n0_ := Aside0.mk (Kd.R_below (pR HO_8) hb)
             have n1_ := Aside0.mk (Kd.R_below (pR HO_11) hb)
             have n2_ := Aside0.mk (Kd.S_lower ho0 (below_size (w := w) bW))
             have n3_ := Aside0.mk (Kd.R_lower ho1 (below_size (w := w) bW))
             have n4_ := Aside0.mk (kb BK372 hb)
             have n5_ := Aside0.mk (kb BK373 hb)
             have n6_ := Aside0.mk (kb BK374 hb)
             have n7_ := Aside0.mk (below_step (w := w) bW hb)
             clear HO_8
             clear HO_11
             clear BK372
             clear BK373
             clear BK374
             clear HB
             have HO_8 := n0_
             have HO_11 := n1_
             have HO422 := n2_
             have HO425 := n3_
             have BK372 := n4_
             have BK373 := n5_
             have BK374 := n6_
             have HB := n7_
             clear n0_ n1_ n2_ n3_ n4_ n5_ n6_ n7_
             (try clear hb)
             (try clear hb2)
             (try clear hk)
             (try clear hi)
             (try clear ho0)
             (try clear ho1)
             refine hK.out _ _ ⟨(blk_cell BK372.out 0).trans rfl, (blk_cell BK372.out 1).trans rfl, (blk_cell BK373.out 0).trans rfl, (blk_cell BK373.out 1).trans rfl, (blk_cell BK374.out 0).trans rfl, (blk_cell BK374.out 1).trans rfl⟩ (fun hHeld => ?_)
             clear hK K
             refine norm_ (a' := ?_) ?_ ?_
             rotate_left
             ·show Act.put _ (some 97) _ = _
              simp only [Act.put, List.setIfInBounds_toArray, List.set_cons_zero, List.set_cons_succ, i64_w, i32_w]
              rfl
             refine one_ (i := 3) (N := some 99) #[true, true, true, true, true, false, false, false, false, false, false, false] rfl rfl (one_of HT_.out (by kernel_rfl)) (by decide) (fun K hK => ?_)
             refine goes_ Tryz.func9 (by kernel_rfl) rfl #[.agg #[.string a1_0, .int .i64 a1_1]] (by rfl) rfl rfl gA ?_
             with_reducible refine (laws_toSnap.calls a1_0 a1_1 t426 t427 _ A123.out).mono ?_
             rintro e w132 ⟨rfl, hb⟩
             refine ⟨_, rfl, ?_⟩
             have n0_ := Aside0.mk (Kd.R_below (pR HO_8) hb)
             have n1_ := Aside0.mk (Kd.R_below (pR HO_11) hb)
             have n2_ := Aside0.mk (Kd.S_below (pS HO422) hb)
             have n3_ := Aside0.mk (Kd.R_below (pR HO425) hb)
             have n4_ := Aside0.mk (kb BK372 hb)
             have n5_ := Aside0.mk (kb BK373 hb)
             have n6_ := Aside0.mk (kb BK374 hb)
             have n7_ := Aside0.mk (below_step (w := w) bW hb)
             clear HO_8
             clear HO_11
             clear HO422
             clear HO425
             clear BK372
             clear BK373
             clear BK374
             clear HB
             have HO_8 := n0_
             have HO_11 := n1_
             have HO422 := n2_
             have HO425 := n3_
             have BK372 := n4_
             have BK373 := n5_
             have BK374 := n6_
             have HB := n7_
             clear n0_ n1_ n2_ n3_ n4_ n5_ n6_ n7_
             (try clear hb)
             (try clear hb2)
             (try clear hk)
             (try clear hi)
             refine hK.out _ _ ⟨(blk_cell BK372.out 0).trans rfl, (blk_cell BK372.out 1).trans rfl, (blk_cell BK373.out 0).trans rfl, (blk_cell BK373.out 1).trans rfl, (blk_cell BK374.out 0).trans rfl, (blk_cell BK374.out 1).trans rfl⟩ (fun hHeld => ?_)
             clear hK K
             refine norm_ (a' := ?_) ?_ ?_
             rotate_left
             ·show Act.put _ (some 99) _ = _
              simp only [Act.put, List.setIfInBounds_toArray, List.set_cons_zero, List.set_cons_succ, i64_w, i32_w]
              rfl
             refine one_ (i := 5) (N := some 101) #[true, true, true, true, true, true, false, false, false, false, false, false] rfl rfl (one_of HT_.out (by kernel_rfl)) (by decide) (fun K hK => ?_)
             refine goes_ Tryz.func9 (by kernel_rfl) rfl #[.agg #[.string a2_0, .int .i64 a2_1]] (by rfl) rfl rfl gA ?_
             with_reducible refine (laws_toSnap.calls a2_0 a2_1 t428 t429 _ A124.out).mono ?_
             rintro e w133 ⟨rfl, hb⟩
             refine ⟨_, rfl, ?_⟩
             have n0_ := Aside0.mk (Kd.R_below (pR HO_8) hb)
             have n1_ := Aside0.mk (Kd.R_below (pR HO_11) hb)
             have n2_ := Aside0.mk (Kd.S_below (pS HO422) hb)
             have n3_ := Aside0.mk (Kd.R_below (pR HO425) hb)
             have n4_ := Aside0.mk (kb BK372 hb)
             have n5_ := Aside0.mk (kb BK373 hb)
             have n6_ := Aside0.mk (kb BK374 hb)
             have n7_ := Aside0.mk (below_step (w := w) bW hb)
             clear HO_8
             clear HO_11
             clear HO422
             clear HO425
             clear BK372
             clear BK373
             clear BK374
             clear HB
             have HO_8 := n0_
             have HO_11 := n1_
             have HO422 := n2_
             have HO425 := n3_
             have BK372 := n4_
             have BK373 := n5_
             have BK374 := n6_
             have HB := n7_
             clear n0_ n1_ n2_ n3_ n4_ n5_ n6_ n7_
             (try clear hb)
             (try clear hb2)
             (try clear hk)
             (try clear hi)
             obtain ⟨Ao134, co134, eo134⟩ := Kd.S_slice HO422.out
             (first | subst eo134 | (injection eo134 with f1_ f2_ f3_; have f4_ := f1_.symm; have f5_ := f3_.symm; clear f1_ f2_ f3_; subst f4_; subst f5_))
             obtain ⟨Ao135, co135, eo135⟩ := Kd.R_slice HO425.out
             (first | subst eo135 | (injection eo135 with f1_ f2_ f3_; have f4_ := f1_.symm; have f5_ := f3_.symm; clear f1_ f2_ f3_; subst f4_; subst f5_))
             refine hK.out _ _ ⟨(blk_cell BK372.out 0).trans rfl, (blk_cell BK372.out 1).trans rfl, (blk_cell BK373.out 0).trans rfl, (blk_cell BK373.out 1).trans rfl, (blk_cell BK374.out 0).trans rfl, (blk_cell BK374.out 1).trans rfl⟩ (fun hHeld => ?_)
             clear hK K
             refine norm_ (a' := ?_) ?_ ?_
             rotate_left
             ·show Act.put _ (some 101) _ = _
              simp only [Act.put, List.setIfInBounds_toArray, List.set_cons_zero, List.set_cons_succ, i64_w, i32_w]
              rfl
             refine one_ (i := 6) (N := some 102) #[true, true, true, true, true, true, true, false, false, false, false, false] rfl rfl (one_of HT_.out (by kernel_rfl)) (by decide) (fun K hK => ?_)
             refine goes_ Tryz.func10 (by kernel_rfl) rfl #[.agg #[.slice Ao134 t420.length co134, .slice Ao135 t423.length co135], .agg #[.string t426, .int .i64 t427], .agg #[.string t428, .int .i64 t429]] (by rfl) rfl rfl gA ?_
             with_reducible refine (impl_DiffSnaps.calls kj93 _ _ t420 _ _ t423 t426 t427 t428 t429 t430 t433 _ ?side1 ?side2 ?side3 ?side4 A125.out).mono ?_
             (case side1 => repeat (first | exact (Kd.S_reads' HO422.out).2.2 | (with_reducible refine Kd.C_alloc ?_ _) | (with_reducible refine Kd.C_drewN ?_ _) | (with_reducible refine Kd.C_drew ?_)))
             (case side2 => exact (Kd.S_reads' HO422.out).2.1)
             (case side3 => repeat (first | exact (Kd.R_reads' HO425.out).2.2 | (with_reducible refine Kd.C_alloc ?_ _) | (with_reducible refine Kd.C_drewN ?_ _) | (with_reducible refine Kd.C_drew ?_)))
             (case side4 => exact (Kd.R_reads' HO425.out).2.1)
             rintro e w136 ⟨v431, rfl, ho0, hb⟩
             refine ⟨_, rfl, ?_⟩
             have n0_ := Aside0.mk (Kd.R_elder' (pR HO_8) (Kd.R_base ho0) hb)
             have n1_ := Aside0.mk (Kd.R_elder' (pR HO_11) (Kd.R_base ho0) hb)
             have n2_ := Aside0.mk (Kd.S_below (pS HO422) hb)
             have n3_ := Aside0.mk (Kd.R_below (pR HO425) hb)
             have n4_ := Aside0.mk (Kd.R_lower (Kd.R_new' (Kd.R_new' ho0 (Kd.R_lt (pR HO_8))) (Kd.R_lt (pR HO_11))) (below_size (w := w) bW))
             have n5_ := Aside0.mk (kb BK372 hb)
             have n6_ := Aside0.mk (kb BK373 hb)
             have n7_ := Aside0.mk (kb BK374 hb)
             have n8_ := Aside0.mk (below_step (w := w) bW hb)
             clear HO_8
             clear HO_11
             clear HO422
             clear HO425
             clear BK372
             clear BK373
             clear BK374
             clear HB
             have HO_8 := n0_
             have HO_11 := n1_
             have HO422 := n2_
             have HO425 := n3_
             have HO432 := n4_
             have BK372 := n5_
             have BK373 := n6_
             have BK374 := n7_
             have HB := n8_
             clear n0_ n1_ n2_ n3_ n4_ n5_ n6_ n7_ n8_
             (try clear hb)
             (try clear hb2)
             (try clear hk)
             (try clear hi)
             (try clear ho0)
             refine hK.out _ _ ⟨(blk_cell BK372.out 0).trans rfl, (blk_cell BK372.out 1).trans rfl, (blk_cell BK373.out 0).trans rfl, (blk_cell BK373.out 1).trans rfl, (blk_cell BK374.out 0).trans rfl, (blk_cell BK374.out 1).trans rfl⟩ (fun hHeld => ?_)
             clear hK K
             refine norm_ (a' := ?_) ?_ ?_
             rotate_left
             ·show Act.put _ (some 102) _ = _
              simp only [Act.put, List.setIfInBounds_toArray, List.set_cons_zero, List.set_cons_succ, i64_w, i32_w]
              rfl
             refine pure_ (i := 7) (N := some 95) (v := ?_) (a' := ?_) #[true, true, true, true, true, true, true, true, false, false, false, false] rfl rfl (any_of HT_.out (by kernel_rfl)) (fun _ _ _ h => h) (Or.inl ⟨by rfl, ?_⟩) ?_ ?_; rotate_left; (focus intro w'; go_simp; with_reducible rfl); rotate_left; (focus simp only [pt, i64_w, i32_w]; rfl)
             refine pure_ (i := 8) (N := some 103) (v := ?_) (a' := ?_) #[true, true, true, true, true, true, true, true, true, false, false, false] rfl rfl (any_of HT_.out (by kernel_rfl)) (fun _ _ _ h => h) (Or.inl ⟨by rfl, ?_⟩) ?_ ?_; rotate_left; (focus intro w'; go_simp; with_reducible rfl); rotate_left; (focus simp only [pt, i64_w, i32_w]; rfl)
             refine pure_ (i := 9) (N := some 104) (v := ?_) (a' := ?_) #[true, true, true, true, true, true, true, true, true, true, false, false] rfl rfl (any_of HT_.out (by kernel_rfl)) (fun _ _ _ h => h) (Or.inl ⟨by rfl, ?_⟩) ?_ ?_; rotate_left; (focus intro w'; go_simp; with_reducible rfl); rotate_left; (focus simp only [pt, i64_w, i32_w]; rfl)
             refine pure_ (i := 10) (N := some 16) (v := ?_) (a' := ?_) #[true, true, true, true, true, true, true, true, true, true, true, false] rfl rfl (any_of HT_.out (by kernel_rfl)) (fun _ _ _ h => h) (Or.inl ⟨by rfl, ?_⟩) ?_ ?_; rotate_left; (focus intro w'; go_simp; with_reducible rfl); rotate_left; (focus simp only [pt, i64_w, i32_w]; rfl)
             refine pure_ (i := 11) (N := some 17) (v := ?_) (a' := ?_) #[true, true, true, true, true, true, true, true, true, true, true, true] rfl rfl (any_of HT_.out (by kernel_rfl)) (fun _ _ _ h => h) (Or.inl ⟨by rfl, ?_⟩) ?_ ?_; rotate_left; (focus intro w'; go_simp; with_reducible rfl); rotate_left; (focus simp only [pt, i64_w, i32_w]; rfl)
             refine done_ (done_of HT_.out (by kernel_rfl)) ?_
             go_upto_region 31 with (fail)
             go_cut [113] (fun v113 wc => ∃ (kq : Nat) (x113_125 : Bool), v113 = .bool x113_125 ∧ Aside0 (laws_FnExactDiffSnaps.j2 kq t418 t417 x113_125 = some true) ∧ Aside0 (kq ≤ kj93) ∧ Aside0 (Kd.R k68 68 wc w.heap.size (fun _ => True) (.slice Ao127 t403.length co127) t418) ∧ Aside0 (wc.heap[gb372]? = some (.cells #[(.slice A0_0 l0_0.length c0_0), (.slice A0_1 l0_1.length c0_1)] 25 (0, 0))) ∧ Aside0 (wc.heap[gb373]? = some (.cells #[.string a1_0, .int .i64 a1_1] 27 (0, 0))) ∧ Aside0 (wc.heap[gb374]? = some (.cells #[.string a2_0, .int .i64 a2_1] 27 (0, 0))) ∧ Aside0 (Below w.heap.size w wc))
             case first =>
              have H := HC126.out
              clear HC126
              replace H := Option.bind_eq_some_iff.mp H
              obtain ⟨t434, A1370, H⟩ := H
              replace H : (if t434 = true then (laws_FnExactDiffSnaps.j2 kj93 t418 t417 (t433 != t391)) else (laws_FnExactDiffSnaps.j2 kj93 t418 t417 true)) = some true := H
              have A137 := Aside0.mk A1370
              clear A1370
              by_cases c138 : t434 = true
              ·subst c138
               have H1 : (laws_FnExactDiffSnaps.j2 kj93 t418 t417 (t433 != t391)) = some true := by rw [if_pos rfl] at H; exact H
               clear H
               have H := H1
               clear H1
               have H' := Aside0.mk H
               clear H
               obtain ⟨Ao139, co139, eo139⟩ := Kd.R_slice HO432.out
               subst eo139
               obtain ⟨Ao140, co140, eo140⟩ := Kd.R_slice HO_8.out
               subst eo140
               go_wp2_with (first | ((with_reducible refine gate_callee (f := 11) rfl ?_); refine goesL_ (some 107) rfl rfl Tryz.func11 (by kernel_rfl) rfl #[.slice Ao139 t430.length co139, .slice Ao140 t388.length co140] rfl gA ?_; (with_reducible refine (laws_eqEditS.calls kj93 _ _ t430 _ _ t388 true _ ?side1 ?side2 ?side3 ?side4 A137.out).mono ?_); (case side1 => repeat (first | exact (Kd.R_reads' HO432.out).2.2 | (with_reducible refine Kd.C_alloc ?_ _) | (with_reducible refine Kd.C_drewN ?_ _) | (with_reducible refine Kd.C_drew ?_))); (case side2 => exact (Kd.R_reads' HO432.out).2.1); (case side3 => repeat (first | exact (Kd.R_reads' HO_8.out).2.2 | (with_reducible refine Kd.C_alloc ?_ _) | (with_reducible refine Kd.C_drewN ?_ _) | (with_reducible refine Kd.C_drew ?_))); (case side4 => exact (Kd.R_reads' HO_8.out).2.1); rintro e w141 ⟨rfl, hb⟩; refine ⟨_, rfl, ?_⟩; have n0_ := Aside0.mk (Kd.R_below (pR HO_8) hb); have n1_ := Aside0.mk (Kd.R_below (pR HO_11) hb); have n2_ := Aside0.mk (Kd.S_below (pS HO422) hb); have n3_ := Aside0.mk (Kd.R_below (pR HO425) hb); have n4_ := Aside0.mk (Kd.R_below (pR HO432) hb); have n5_ := Aside0.mk (kb BK372 hb); have n6_ := Aside0.mk (kb BK373 hb); have n7_ := Aside0.mk (kb BK374 hb); have n8_ := Aside0.mk (below_step (w := w) bW hb); clear HO_8; clear HO_11; clear HO422; clear HO425; clear HO432; clear BK372; clear BK373; clear BK374; clear HB; have HO_8 := n0_; have HO_11 := n1_; have HO422 := n2_; have HO425 := n3_; have HO432 := n4_; have BK372 := n5_; have BK373 := n6_; have BK374 := n7_; have HB := n8_; clear n0_ n1_ n2_ n3_ n4_ n5_ n6_ n7_ n8_; (try clear hb); (try clear hb2); (try clear hk); (try clear hi)))
               go_meet
               case rel => exact ⟨_, ((t433 != t391)), vE, H', ⟨by have := HJ46.out; have := HJ93.out; first | omega | exact Nat.le_refl _⟩, ⟨by (with_reducible repeat (first | apply Kd.R_alloc | apply Kd.R_drewN | apply Kd.R_drew)); exact Kd.R_mono HO_11.out (fun _ hk => trivial)⟩, ⟨by (with_reducible repeat (first | refine blk_drewN ?_ _ | refine blk_drew ?_ | refine blk_alloc ?_ _)); exact BK372.out⟩, ⟨by (with_reducible repeat (first | refine blk_drewN ?_ _ | refine blk_drew ?_ | refine blk_alloc ?_ _)); exact BK373.out⟩, ⟨by (with_reducible repeat (first | refine blk_drewN ?_ _ | refine blk_drew ?_ | refine blk_alloc ?_ _)); exact BK374.out⟩, ⟨bW⟩⟩
              ·replace c138 := Bool.eq_false_iff.mpr c138
               subst c138
               have H1 : (laws_FnExactDiffSnaps.j2 kj93 t418 t417 true) = some true := by rw [if_neg (show ¬ (false = true) by decide)] at H; exact H
               clear H
               have H := H1
               clear H1
               have H' := Aside0.mk H
               clear H
               obtain ⟨Ao142, co142, eo142⟩ := Kd.R_slice HO432.out
               subst eo142
               obtain ⟨Ao143, co143, eo143⟩ := Kd.R_slice HO_8.out
               subst eo143
               go_wp2_with (first | ((with_reducible refine gate_callee (f := 11) rfl ?_); refine goesL_ (some 107) rfl rfl Tryz.func11 (by kernel_rfl) rfl #[.slice Ao142 t430.length co142, .slice Ao143 t388.length co143] rfl gA ?_; (with_reducible refine (laws_eqEditS.calls kj93 _ _ t430 _ _ t388 false _ ?side1 ?side2 ?side3 ?side4 A137.out).mono ?_); (case side1 => repeat (first | exact (Kd.R_reads' HO432.out).2.2 | (with_reducible refine Kd.C_alloc ?_ _) | (with_reducible refine Kd.C_drewN ?_ _) | (with_reducible refine Kd.C_drew ?_))); (case side2 => exact (Kd.R_reads' HO432.out).2.1); (case side3 => repeat (first | exact (Kd.R_reads' HO_8.out).2.2 | (with_reducible refine Kd.C_alloc ?_ _) | (with_reducible refine Kd.C_drewN ?_ _) | (with_reducible refine Kd.C_drew ?_))); (case side4 => exact (Kd.R_reads' HO_8.out).2.1); rintro e w144 ⟨rfl, hb⟩; refine ⟨_, rfl, ?_⟩; have n0_ := Aside0.mk (Kd.R_below (pR HO_8) hb); have n1_ := Aside0.mk (Kd.R_below (pR HO_11) hb); have n2_ := Aside0.mk (Kd.S_below (pS HO422) hb); have n3_ := Aside0.mk (Kd.R_below (pR HO425) hb); have n4_ := Aside0.mk (Kd.R_below (pR HO432) hb); have n5_ := Aside0.mk (kb BK372 hb); have n6_ := Aside0.mk (kb BK373 hb); have n7_ := Aside0.mk (kb BK374 hb); have n8_ := Aside0.mk (below_step (w := w) bW hb); clear HO_8; clear HO_11; clear HO422; clear HO425; clear HO432; clear BK372; clear BK373; clear BK374; clear HB; have HO_8 := n0_; have HO_11 := n1_; have HO422 := n2_; have HO425 := n3_; have HO432 := n4_; have BK372 := n5_; have BK373 := n6_; have BK374 := n7_; have HB := n8_; clear n0_ n1_ n2_ n3_ n4_ n5_ n6_ n7_ n8_; (try clear hb); (try clear hb2); (try clear hk); (try clear hi)))
               go_meet
               case rel => exact ⟨_, (true), vE, H', ⟨by have := HJ46.out; have := HJ93.out; first | omega | exact Nat.le_refl _⟩, ⟨by (with_reducible repeat (first | apply Kd.R_alloc | apply Kd.R_drewN | apply Kd.R_drew)); exact Kd.R_mono HO_11.out (fun _ hk => trivial)⟩, ⟨by (with_reducible repeat (first | refine blk_drewN ?_ _ | refine blk_drew ?_ | refine blk_alloc ?_ _)); exact BK372.out⟩, ⟨by (with_reducible repeat (first | refine blk_drewN ?_ _ | refine blk_drew ?_ | refine blk_alloc ?_ _)); exact BK373.out⟩, ⟨by (with_reducible repeat (first | refine blk_drewN ?_ _ | refine blk_drew ?_ | refine blk_alloc ?_ _)); exact BK374.out⟩, ⟨bW⟩⟩
             case rest =>
              clear HC126
              try clear c1
              try clear p2
              try clear c3
              try clear c5
              try clear c6
              try clear c7
              try clear c8
              try clear c9
              try clear c10
              try clear c11
              try clear c12
              try clear c13
              try clear c14
              try clear c15
              try clear c51
              try clear c52
              try clear c55
              try clear c71
              try clear c72
              try clear c73
              try clear c82
              try clear c89
              try clear c92
              try clear c100
              try clear c101
              try clear c102
              try clear c105
              try clear c105b0
              try clear c107
              try clear c114
              try clear c117
              try clear c117b0
              try clear c121
              try clear c121b0
              try clear c121b1
              try clear c138
              try clear hcz103_0
              try clear hcz103_1
              try clear hcz53_0
              try clear hcz53_1
              try clear hcz56_0
              try clear hcz56_1
              try clear hcz58_0
              try clear hcz58_1
              try clear hcz67_0
              try clear hcz67_1
              try clear hcz74_0
              try clear hcz74_1
              try clear hfz103_0
              try clear hfz103_1
              try clear hfz53_0
              try clear hfz53_1
              try clear hfz56_0
              try clear hfz56_1
              try clear hfz58_0
              try clear hfz58_1
              try clear hfz67_0
              try clear hfz67_1
              try clear hfz74_0
              try clear hfz74_1
              try clear p2
              obtain ⟨kq, x113_125, rfl, HA, HJ125, HO_11, BK372, BK373, BK374, HB⟩ := hcut
              have hl11_125 := (Kd.R_reads' HO_11.out).1
              rw [hl11_125] at HO_11
              (try simp only [hl11_125])
              (try simp only [hl11_125] at BK372)
              (try simp only [hl11_125] at BK373)
              (try simp only [hl11_125] at BK374)
              cases kq with
              | zero => exact absurd HA.out (by simp [laws_FnExactDiffSnaps.j2])
              | succ kj125 =>
               have H := HA.out
               clear HA
               simp only [laws_FnExactDiffSnaps.j2] at H
               by_cases c145 : x113_125 = true
               ·subst c145
                have H1 : (some false) = some true := by rw [if_pos rfl] at H; exact H
                exact absurd H1 (by simp)
               ·replace c145 := Bool.eq_false_iff.mpr c145
                subst c145
                have H1 : ((laws_heldEditS.f kj125 t418 1).bind fun t435 => (if t435 < 0 then (some false) else (if t435 = t417 then (some true) else (some false)))) = some true := by rw [if_neg (show ¬ (false = true) by decide)] at H; exact H
                clear H
                have H := H1
                clear H1
                replace H := Option.bind_eq_some_iff.mp H
                obtain ⟨t435, A1460, H⟩ := H
                replace H : (if t435 < 0 then (some false) else (if t435 = t417 then (some true) else (some false))) = some true := H
                have A146 := Aside0.mk A1460
                clear A1460
                by_cases c147 : t435 < 0
                ·rw [if_pos c147] at H
                 exact absurd H (by simp)
                ·rw [if_neg c147] at H
                 have c147b0 : decide (t435 < 0) = false := decide_eq_false c147
                 clear c147
                 by_cases c149 : t435 = t417
                 ·rw [if_pos c149] at H
                  have c149b0 : (t435 == t417) = true := beq_iff_eq.mpr c149
                  have c149b1 : (t435 != t417) = false := bne_eq_false_iff_eq.mpr c149
                  clear c149
                  clear H
                  go_wp2_with (first | ((with_reducible refine gate_callee (f := 15) rfl ?_); refine goesL_ (some 116) rfl rfl Tryz.func15 (by kernel_rfl) rfl #[.slice Ao127 t418.length co127, .int .i64 1] rfl gA ?_; (with_reducible refine (laws_heldEditS.calls kj125 _ _ t418 1 t435 _ ?side1 ?side2 A146.out).mono ?_); (case side1 => repeat (first | exact (Kd.R_reads' HO_11.out).2.2 | (with_reducible refine Kd.C_alloc ?_ _) | (with_reducible refine Kd.C_drewN ?_ _) | (with_reducible refine Kd.C_drew ?_))); (case side2 => exact (Kd.R_reads' HO_11.out).2.1); rintro e w150 ⟨rfl, hb⟩; refine ⟨_, rfl, ?_⟩; have n0_ := Aside0.mk (Kd.R_below (pR HO_11) hb); have n1_ := Aside0.mk (kb BK372 hb); have n2_ := Aside0.mk (kb BK373 hb); have n3_ := Aside0.mk (kb BK374 hb); have n4_ := Aside0.mk (below_step (w := w) bW hb); clear HO_11; clear BK372; clear BK373; clear BK374; clear HB; have HO_11 := n0_; have BK372 := n1_; have BK373 := n2_; have BK374 := n3_; have HB := n4_; clear n0_ n1_ n2_ n3_ n4_; (try clear hb); (try clear hb2); (try clear hk); (try clear hi)))
                  go_ret
                  exact ⟨rE, bW⟩
                 ·rw [if_neg c149] at H
                  exact absurd H (by simp)
            ·rw [if_neg c121] at H
             exact absurd H (by simp)
       ·replace c92 := Bool.eq_false_iff.mpr c92
        subst c92
        have H1 : (some false) = some true := by rw [if_neg (show ¬ (false = true) by decide)] at H; exact H
        exact absurd H1 (by simp)
end Go.Proofs.YtblejbgkcgajgaaGreat.Q
end

section
namespace Go.Proofs.YtblejbgkcgajgaaGreat.Q
open Go.RowKit Go.Proofs.YtblejbgkcgajgaaGreatW.PrintWords Go.Proofs.YtblejbgkcgajgaaGreatW.PrintLast Go.Proofs.YtblejbgkcgajgaaGreatW.PrintMore
attribute [local go_sem] max2_int min2_int max_two min_two max_three min_three max_four min_four   -- for this text's walks alone
set_option linter.unusedVariables false
set_option linter.unusedSimpArgs false
attribute [local go_sem] bin_leq bin_gtr bin_geq
def Opens {α : Type} (P : Program) (d : Kd α) (t : TypeId) (G : α → Prop) : Prop :=
  P.cellsOf t = d.sz ∧ ∀ {H : Type} (enc : TypeId × Value → H) (w : World) (base : Nat) (spare : Nat → Bool) (held : Bool) (fuel : Nat) (cs : List Value) (x : DataW H × List MemPlace),
    DataW.trod enc P w base spare held fuel t cs = some x → ∃ v, d.K w v cs ∧ G v
theorem add_twice (a : Addr) (m i : Nat) : (a.add m).add i = a.add (m + i) := by
  unfold Addr.add
  by_cases h1 : m = 0 <;> by_cases h2 : i = 0 <;> simp_all [Nat.add_assoc]
theorem opens_int {P : Program} {t : TypeId} {k : IntKind} (ht : P.underlying t = some (.int k)) (hc : P.cellsOf t = 1) : Opens P (Kd.int k) t (fun n => (Lit.int k n).wf = true) := by
  refine ⟨hc, fun enc w base spare held fuel cs x h => ?_⟩
  cases fuel with
  | zero => simp [DataW.trod] at h
  | succ n =>
    unfold DataW.trod at h
    rw [ht] at h
    split at h <;> simp_all
    obtain ⟨⟨rfl, h1⟩, _⟩ := h
    exact ⟨_, rfl, h1⟩
theorem opens_bool {P : Program} {t : TypeId} (ht : P.underlying t = some .bool) (hc : P.cellsOf t = 1) : Opens P Kd.bool t (fun _ => True) := by
  refine ⟨hc, fun enc w base spare held fuel cs x h => ?_⟩
  cases fuel with
  | zero => simp [DataW.trod] at h
  | succ n =>
    unfold DataW.trod at h
    rw [ht] at h
    split at h <;> simp_all
    rename_i b
    cases b
    · exact .inl rfl
    · exact .inr rfl
theorem opens_string {P : Program} {t : TypeId} (ht : P.underlying t = some .string) (hc : P.cellsOf t = 1) : Opens P Kd.string t (fun s => s.size ≤ 9223372036854775807) := by
  refine ⟨hc, fun enc w base spare held fuel cs x h => ?_⟩
  cases fuel with
  | zero => simp [DataW.trod] at h
  | succ n =>
    unfold DataW.trod at h
    rw [ht] at h
    split at h <;> simp_all
    exact ⟨_, rfl, h.1⟩
theorem list_of {α : Type} {Q : Nat → α → Prop} : ∀ n, (∀ i, i < n → ∃ v, Q i v) → ∃ l : List α, l.length = n ∧ ∀ i v, l[i]? = some v → Q i v
  | 0, _ => ⟨[], rfl, fun i v h => by simp at h⟩
  | n + 1, h => by
    obtain ⟨l, hl, hq⟩ := list_of n (fun i hi => h i (by omega))
    obtain ⟨v, hv⟩ := h n (by omega)
    refine ⟨l ++ [v], by simp [hl], fun i u hu => ?_⟩
    by_cases hi : i < l.length
    · rw [List.getElem?_append_left hi] at hu
      exact hq i u hu
    · have hi2 : i = l.length := by
        have := (List.getElem?_eq_some_iff.1 hu).1
        rw [List.length_append, List.length_singleton] at this
        omega
      subst hi2
      have hu' : v = u := by simpa using hu
      subst hu'
      rw [hl]
      exact hv
theorem opens_slice {α : Type} {P : Program} {d : Kd α} {t e : TypeId} {G : α → Prop} (ht : P.underlying t = some (.slice e)) (hc : P.cellsOf t = 1) (O : Opens P d e G) :
    Opens P (Kd.slice e d) t (fun l => l.length ≤ 9223372036854775807 ∧ ∀ x, x ∈ l → G x) := by
  refine ⟨hc, fun enc w base spare held fuel cs x h => ?_⟩
  rcases DataW.trod_slice ht h with ⟨rfl, _⟩ | ⟨a, len, cap, elems, rest, n, _, rfl, _, hb, hl, hm, hlen, hel, _, _⟩
  · exact ⟨[], ⟨none, 0, rfl, Nat.le_refl _, Kd.C_nil d w⟩, by simp, fun x hx => by simp at hx⟩
  · have each : ∀ i, i < len → ∃ v : α, (∃ c, c.length = d.sz ∧ d.K w v c ∧ ∀ j u, c[j]? = some u → w.cell? (a.add (i * d.sz + j)) = some u) ∧ G v := by
      intro i hi
      have h1 := hel i hi
      have h2 : elems[i]? = some (elems[i]'(by omega)) := List.getElem?_eq_getElem (by omega)
      rw [h2, Option.bind_eq_some_iff] at h1
      obtain ⟨c, hcc, htr⟩ := h1
      obtain ⟨v, hK, hG⟩ := O.2 enc w base spare held n c _ htr
      obtain ⟨_, hcl, hcells⟩ := World.cells?_some hcc
      refine ⟨v, ⟨c, d.K_len hK, hK, fun j u hu => ?_⟩, hG⟩
      have hj : j < c.length := (List.getElem?_eq_some_iff.1 hu).1
      have := hcells j (by omega)
      rw [hu, add_twice, O.1] at this
      exact this
    obtain ⟨l, hll, hq⟩ := list_of len each
    refine ⟨l, ⟨some a, cap, by rw [hll], by omega, hll ▸ ?_⟩, by unfold maxLen at hm; omega, fun x hx => ?_⟩
    · refine ⟨hll, by unfold maxLen at hm; omega, fun hp => ⟨a, rfl, fun j p hj => ?_⟩⟩
      obtain ⟨c, h1, h2, h3⟩ := (hq j p hj).1
      exact ⟨c, h1, h2, h3⟩
    · obtain ⟨i, hi, rfl⟩ := List.mem_iff_getElem.mp hx
      exact (hq i _ (List.getElem?_eq_getElem hi)).2
end Go.Proofs.YtblejbgkcgajgaaGreat.Q
end

section
namespace Go.Proofs.YtblejbgkcgajgaaGreat.Q
open Go.RowKit Go.Proofs.YtblejbgkcgajgaaGreatW.PrintWords Go.Proofs.YtblejbgkcgajgaaGreatW.PrintLast Go.Proofs.YtblejbgkcgajgaaGreatW.PrintMore
attribute [local go_sem] max2_int min2_int max_two min_two max_three min_three max_four min_four   -- for this text's walks alone
set_option linter.unusedVariables false
set_option linter.unusedSimpArgs false
attribute [local go_sem] bin_leq bin_gtr bin_geq
def good127 (x : S127) : Prop := (fun s => s.size ≤ 9223372036854775807) x.f0 ∧ (fun n => (Lit.int .i64 n).wf = true) x.f1
set_option maxRecDepth 100000 in
theorem opens_127 : Opens Tryz.prog k127 127 good127 := by
  refine ⟨by kernel_rfl, fun enc w base spare held fuel cs x h => ?_⟩
  obtain ⟨xs, n, _, _, hcl, hxl, hf⟩ := DataW.trod_struct Tryz.underlying127 h
  have hcl2 : cs.length = 2 := hcl.trans (by kernel_rfl)
  obtain ⟨c0, c1, rfl⟩ : ∃ c0 c1, cs = [c0, c1] := by
    match cs, hcl2 with
    | [c0, c1], _ => exact ⟨c0, c1, rfl⟩
  have h0 := hf 0 _ rfl
  rw [List.getElem?_eq_getElem (show 0 < xs.length by rw [hxl]; decide)] at h0
  obtain ⟨v0, K0, G0⟩ := (opens_string Tryz.underlying9 (by kernel_rfl)).2 enc w base spare held n [c0] _ ((show DataW.trod enc Tryz.prog w base spare held n 9 [c0] = _ from (by first | exact h0 | (rw [show Tryz.prog.cellsOf 9 = 1 by kernel_rfl] at h0; exact h0))))
  have h1 := hf 1 _ rfl
  rw [List.getElem?_eq_getElem (show 1 < xs.length by rw [hxl]; decide)] at h1
  obtain ⟨v1, K1, G1⟩ := (opens_int (k := .i64) Tryz.underlying3 (by kernel_rfl)).2 enc w base spare held n [c1] _ ((show DataW.trod enc Tryz.prog w base spare held n 3 [c1] = _ from (by first | exact h1 | (rw [show Tryz.prog.cellsOf 3 = 1 by kernel_rfl] at h1; exact h1))))
  exact ⟨⟨v0, v1⟩, ⟨[c0], [c1], rfl, K0, K1⟩, ⟨G0, G1⟩⟩
end Go.Proofs.YtblejbgkcgajgaaGreat.Q
end

section
namespace Go.Proofs.YtblejbgkcgajgaaGreat.Q
open Go.RowKit Go.Proofs.YtblejbgkcgajgaaGreatW.PrintWords Go.Proofs.YtblejbgkcgajgaaGreatW.PrintLast Go.Proofs.YtblejbgkcgajgaaGreatW.PrintMore
attribute [local go_sem] max2_int min2_int max_two min_two max_three min_three max_four min_four   -- for this text's walks alone
set_option linter.unusedVariables false
set_option linter.unusedSimpArgs false
attribute [local go_sem] bin_leq bin_gtr bin_geq
def good75 (x : S75) : Prop := (fun l => l.length ≤ 9223372036854775807 ∧ ∀ x, x ∈ l → (fun n => (Lit.int .i64 n).wf = true) x) x.f0 ∧ (fun l => l.length ≤ 9223372036854775807 ∧ ∀ x, x ∈ l → good127 x) x.f1
set_option maxRecDepth 100000 in
theorem opens_75 : Opens Tryz.prog k75 75 good75 := by
  refine ⟨by kernel_rfl, fun enc w base spare held fuel cs x h => ?_⟩
  obtain ⟨xs, n, _, _, hcl, hxl, hf⟩ := DataW.trod_struct Tryz.underlying75 h
  have hcl2 : cs.length = 2 := hcl.trans (by kernel_rfl)
  obtain ⟨c0, c1, rfl⟩ : ∃ c0 c1, cs = [c0, c1] := by
    match cs, hcl2 with
    | [c0, c1], _ => exact ⟨c0, c1, rfl⟩
  have h0 := hf 0 _ rfl
  rw [List.getElem?_eq_getElem (show 0 < xs.length by rw [hxl]; decide)] at h0
  obtain ⟨v0, K0, G0⟩ := (opens_slice Tryz.underlying62 (by kernel_rfl) (opens_int (k := .i64) Tryz.underlying3 (by kernel_rfl))).2 enc w base spare held n [c0] _ ((show DataW.trod enc Tryz.prog w base spare held n 62 [c0] = _ from (by first | exact h0 | (rw [show Tryz.prog.cellsOf 62 = 1 by kernel_rfl] at h0; exact h0))))
  have h1 := hf 1 _ rfl
  rw [List.getElem?_eq_getElem (show 1 < xs.length by rw [hxl]; decide)] at h1
  obtain ⟨v1, K1, G1⟩ := (opens_slice Tryz.underlying73 (by kernel_rfl) opens_127).2 enc w base spare held n [c1] _ ((show DataW.trod enc Tryz.prog w base spare held n 73 [c1] = _ from (by first | exact h1 | (rw [show Tryz.prog.cellsOf 73 = 1 by kernel_rfl] at h1; exact h1))))
  exact ⟨⟨v0, v1⟩, ⟨[c0], [c1], rfl, K0, K1⟩, ⟨G0, G1⟩⟩
end Go.Proofs.YtblejbgkcgajgaaGreat.Q
end

section
namespace Go.Proofs.YtblejbgkcgajgaaGreat.Q
open Go.RowKit Go.Proofs.YtblejbgkcgajgaaGreatW.PrintWords Go.Proofs.YtblejbgkcgajgaaGreatW.PrintLast Go.Proofs.YtblejbgkcgajgaaGreatW.PrintMore
attribute [local go_sem] max2_int min2_int max_two min_two max_three min_three max_four min_four   -- for this text's walks alone
set_option linter.unusedVariables false
set_option linter.unusedSimpArgs false
attribute [local go_sem] bin_leq bin_gtr bin_geq
def good89 (x : S89) : Prop := (fun s => s.size ≤ 9223372036854775807) x.f0 ∧ (fun n => (Lit.int .i64 n).wf = true) x.f1 ∧ (fun n => (Lit.int .i64 n).wf = true) x.f2 ∧ (fun _ => True) x.f3
set_option maxRecDepth 100000 in
theorem opens_89 : Opens Tryz.prog k89 89 good89 := by
  refine ⟨by kernel_rfl, fun enc w base spare held fuel cs x h => ?_⟩
  obtain ⟨xs, n, _, _, hcl, hxl, hf⟩ := DataW.trod_struct Tryz.underlying89 h
  have hcl2 : cs.length = 4 := hcl.trans (by kernel_rfl)
  obtain ⟨c0, c1, c2, c3, rfl⟩ : ∃ c0 c1 c2 c3, cs = [c0, c1, c2, c3] := by
    match cs, hcl2 with
    | [c0, c1, c2, c3], _ => exact ⟨c0, c1, c2, c3, rfl⟩
  have h0 := hf 0 _ rfl
  rw [List.getElem?_eq_getElem (show 0 < xs.length by rw [hxl]; decide)] at h0
  obtain ⟨v0, K0, G0⟩ := (opens_string Tryz.underlying9 (by kernel_rfl)).2 enc w base spare held n [c0] _ ((show DataW.trod enc Tryz.prog w base spare held n 9 [c0] = _ from (by first | exact h0 | (rw [show Tryz.prog.cellsOf 9 = 1 by kernel_rfl] at h0; exact h0))))
  have h1 := hf 1 _ rfl
  rw [List.getElem?_eq_getElem (show 1 < xs.length by rw [hxl]; decide)] at h1
  obtain ⟨v1, K1, G1⟩ := (opens_int (k := .i64) Tryz.underlying3 (by kernel_rfl)).2 enc w base spare held n [c1] _ ((show DataW.trod enc Tryz.prog w base spare held n 3 [c1] = _ from (by first | exact h1 | (rw [show Tryz.prog.cellsOf 3 = 1 by kernel_rfl] at h1; exact h1))))
  have h2 := hf 2 _ rfl
  rw [List.getElem?_eq_getElem (show 2 < xs.length by rw [hxl]; decide)] at h2
  obtain ⟨v2, K2, G2⟩ := (opens_int (k := .i64) Tryz.underlying3 (by kernel_rfl)).2 enc w base spare held n [c2] _ ((show DataW.trod enc Tryz.prog w base spare held n 3 [c2] = _ from (by first | exact h2 | (rw [show Tryz.prog.cellsOf 3 = 1 by kernel_rfl] at h2; exact h2))))
  have h3 := hf 3 _ rfl
  rw [List.getElem?_eq_getElem (show 3 < xs.length by rw [hxl]; decide)] at h3
  obtain ⟨v3, K3, G3⟩ := (opens_bool Tryz.underlying4 (by kernel_rfl)).2 enc w base spare held n [c3] _ ((show DataW.trod enc Tryz.prog w base spare held n 4 [c3] = _ from (by first | exact h3 | (rw [show Tryz.prog.cellsOf 4 = 1 by kernel_rfl] at h3; exact h3))))
  exact ⟨⟨v0, v1, v2, v3⟩, ⟨[c0], [c1, c2, c3], rfl, K0, ⟨[c1], [c2, c3], rfl, K1, ⟨[c2], [c3], rfl, K2, K3⟩⟩⟩, ⟨G0, G1, G2, G3⟩⟩
end Go.Proofs.YtblejbgkcgajgaaGreat.Q
end

section
namespace Go.Proofs.YtblejbgkcgajgaaGreat.Q
open Go.RowKit Go.Proofs.YtblejbgkcgajgaaGreatW.PrintWords Go.Proofs.YtblejbgkcgajgaaGreatW.PrintLast Go.Proofs.YtblejbgkcgajgaaGreatW.PrintMore
attribute [local go_sem] max2_int min2_int max_two min_two max_three min_three max_four min_four   -- for this text's walks alone
set_option linter.unusedVariables false
set_option linter.unusedSimpArgs false
attribute [local go_sem] bin_leq bin_gtr bin_geq
def good25 (x : S25) : Prop := (fun l => l.length ≤ 9223372036854775807 ∧ ∀ x, x ∈ l → good75 x) x.f0 ∧ (fun l => l.length ≤ 9223372036854775807 ∧ ∀ x, x ∈ l → good89 x) x.f1
set_option maxRecDepth 100000 in
theorem opens_25 : Opens Tryz.prog k25 25 good25 := by
  refine ⟨by kernel_rfl, fun enc w base spare held fuel cs x h => ?_⟩
  obtain ⟨xs, n, _, _, hcl, hxl, hf⟩ := DataW.trod_struct Tryz.underlying25 h
  have hcl2 : cs.length = 2 := hcl.trans (by kernel_rfl)
  obtain ⟨c0, c1, rfl⟩ : ∃ c0 c1, cs = [c0, c1] := by
    match cs, hcl2 with
    | [c0, c1], _ => exact ⟨c0, c1, rfl⟩
  have h0 := hf 0 _ rfl
  rw [List.getElem?_eq_getElem (show 0 < xs.length by rw [hxl]; decide)] at h0
  obtain ⟨v0, K0, G0⟩ := (opens_slice Tryz.underlying22 (by kernel_rfl) opens_75).2 enc w base spare held n [c0] _ ((show DataW.trod enc Tryz.prog w base spare held n 22 [c0] = _ from (by first | exact h0 | (rw [show Tryz.prog.cellsOf 22 = 1 by kernel_rfl] at h0; exact h0))))
  have h1 := hf 1 _ rfl
  rw [List.getElem?_eq_getElem (show 1 < xs.length by rw [hxl]; decide)] at h1
  obtain ⟨v1, K1, G1⟩ := (opens_slice Tryz.underlying23 (by kernel_rfl) opens_89).2 enc w base spare held n [c1] _ ((show DataW.trod enc Tryz.prog w base spare held n 23 [c1] = _ from (by first | exact h1 | (rw [show Tryz.prog.cellsOf 23 = 1 by kernel_rfl] at h1; exact h1))))
  exact ⟨⟨v0, v1⟩, ⟨[c0], [c1], rfl, K0, K1⟩, ⟨G0, G1⟩⟩
end Go.Proofs.YtblejbgkcgajgaaGreat.Q
end
