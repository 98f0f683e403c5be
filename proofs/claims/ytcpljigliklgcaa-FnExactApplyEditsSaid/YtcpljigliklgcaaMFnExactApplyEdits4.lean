/- Parts of the proof of the law FnExactApplyEdits, joined into one text. -/
import Derived.Test.YtcpljigliklgcaaMFnExactApplyEdits3
section
namespace Go.Proofs.Ytcpljigliklgcaa.Q
open Go.RowKit Go.Proofs.YtcpljigliklgcaaW.PrintWords Go.Proofs.YtcpljigliklgcaaW.PrintLast Go.Proofs.YtcpljigliklgcaaW.PrintMore
attribute [local go_sem] max2_int min2_int max_two min_two max_three min_three max_four min_four   -- for this text's walks alone
set_option linter.unusedVariables false
set_option linter.unusedSimpArgs false
attribute [local go_sem] bin_leq bin_gtr bin_geq
mutual
def laws_FnExactApplyEdits.j0 : Nat → List (S125) → List (S142) → List (S51) → Int → List (S51) → List (S134) → List (S51) → Int → Bool → Option (Bool)
  | 0, _, _, _, _, _, _, _, _, _ => none
  | k + 1, x0, x1, x6, x7, x8, x9, x10, x11, x53 => if x53 = true then (some false) else ((laws_toEntryS.f k x0).bind fun t426 => ((laws_eqEntryS.f k x8 t426).bind fun t429 => (if t429 = true then ((laws_toEditS.f k x1).bind fun t430 => ((laws_eqEditS.f k x9 t430).bind fun t433 => (if t433 = true then ((laws_markEntryS.f k x8 1).bind fun bt434 => ((laws_markEditS.f k x9 bt434.1).bind fun bt436 => (if bt436.1 < 0 then (laws_FnExactApplyEdits.j1 k x0 x1 x6 x7 x10 true) else ((laws_eqEntryS.f k x10 x6).bind fun t438 => (if t438 = true then (laws_FnExactApplyEdits.j1 k x0 x1 x6 x7 x10 (x11 != x7)) else (laws_FnExactApplyEdits.j1 k x0 x1 x6 x7 x10 true)))))) else (some false)))) else (some false))))
def laws_FnExactApplyEdits.j1 : Nat → List (S125) → List (S142) → List (S51) → Int → List (S51) → Bool → Option (Bool)
  | 0, _, _, _, _, _, _ => none
  | k + 1, x0, x1, x6, x7, x10, x82 => if x82 = true then (some false) else ((laws_markEntryS.f k x10 1).bind fun bt439 => ((laws_heldEntryS.f k bt439.2 1).bind fun t441 => (if t441 < 0 then (some false) else (if t441 = bt439.1 then ((laws_toEntryS.f k x0).bind fun t442 => ((laws_toEditS.f k x1).bind fun t445 => ((impl_ApplyEdits.f k t442 t445).bind fun bt448 => ((laws_eqEntryS.f k bt448.1 x6).bind fun t452 => (if t452 = true then (laws_FnExactApplyEdits.j2 k bt439.2 bt439.1 (bt448.2 != x7)) else (laws_FnExactApplyEdits.j2 k bt439.2 bt439.1 true)))))) else (some false)))))
def laws_FnExactApplyEdits.j2 : Nat → List (S51) → Int → Bool → Option (Bool)
  | 0, _, _, _ => none
  | k + 1, x10, x13, x110 => if x110 = true then (some false) else ((laws_heldEntryS.f k x10 1).bind fun t453 => (if t453 < 0 then (some false) else (if t453 = x13 then (some true) else (some false))))
end
def laws_FnExactApplyEdits.f (k : Nat) (l0 : List (S125)) (l1 : List (S142)) : Option (Bool) := (laws_szEntryS.f k l0 1048576).bind fun t403 => (if t403 < 0 then (some true) else ((laws_szEditS.f k l1 t403).bind fun t404 => (if t404 < 0 then (some true) else ((laws_toEntryS.f k l0).bind fun t405 => ((laws_toEditS.f k l1).bind fun t408 => ((spec_ApplyEdits.f k t405 t408).bind fun bt411 => ((laws_toEntryS.f k l0).bind fun t415 => ((laws_toEditS.f k l1).bind fun t418 => ((impl_ApplyEdits.f k t415 t418).bind fun bt421 => ((laws_eqEntryS.f k bt421.1 bt411.1).bind fun t425 => (if t425 = true then (laws_FnExactApplyEdits.j0 k l0 l1 bt411.1 bt411.2 t415 t418 bt421.1 bt421.2 (bt421.2 != bt411.2)) else (laws_FnExactApplyEdits.j0 k l0 l1 bt411.1 bt411.2 t415 t418 bt421.1 bt421.2 true))))))))))))
set_option maxHeartbeats 8000000 in
set_option maxRecDepth 100000 in
theorem laws_FnExactApplyEdits.calls (k : Nat) (A0 : Option Addr) (c0 : Nat) (l0 : List (S125)) (A1 : Option Addr) (c1 : Nat) (l1 : List (S142)) (w : World) (hr0 : Kd.C k125 w A0 l0.length l0) (hc0 : l0.length ≤ c0) (hr1 : Kd.C k142 w A1 l1.length l1) (hc1 : l1.length ≤ c1) (h : laws_FnExactApplyEdits.f k l0 l1 = some true) :
    Calls Try.prog 5 #[.slice A0 l0.length c0, .slice A1 l1.length c1] w fun e w' => e = .returned (.bool true) ∧ Below w.heap.size w w' := by
  have HR0 := Aside0.mk hr0
  have HC0 := Aside0.mk hc0
  clear hr0 hc0
  have HR1 := Aside0.mk hr1
  have HC1 := Aside0.mk hc1
  clear hr1 hc1
  have HB := Aside0.mk (Below.refl w.heap.size w)
  have H : ((laws_szEntryS.f k l0 1048576).bind fun t403 => (if t403 < 0 then (some true) else ((laws_szEditS.f k l1 t403).bind fun t404 => (if t404 < 0 then (some true) else ((laws_toEntryS.f k l0).bind fun t405 => ((laws_toEditS.f k l1).bind fun t408 => ((spec_ApplyEdits.f k t405 t408).bind fun bt411 => ((laws_toEntryS.f k l0).bind fun t415 => ((laws_toEditS.f k l1).bind fun t418 => ((impl_ApplyEdits.f k t415 t418).bind fun bt421 => ((laws_eqEntryS.f k bt421.1 bt411.1).bind fun t425 => (if t425 = true then (laws_FnExactApplyEdits.j0 k l0 l1 bt411.1 bt411.2 t415 t418 bt421.1 bt421.2 (bt421.2 != bt411.2)) else (laws_FnExactApplyEdits.j0 k l0 l1 bt411.1 bt411.2 t415 t418 bt421.1 bt421.2 true))))))))))))) = some true := h
  clear h
  replace H := Option.bind_eq_some_iff.mp H
  obtain ⟨t403, A30, H⟩ := H
  replace H : (if t403 < 0 then (some true) else ((laws_szEditS.f k l1 t403).bind fun t404 => (if t404 < 0 then (some true) else ((laws_toEntryS.f k l0).bind fun t405 => ((laws_toEditS.f k l1).bind fun t408 => ((spec_ApplyEdits.f k t405 t408).bind fun bt411 => ((laws_toEntryS.f k l0).bind fun t415 => ((laws_toEditS.f k l1).bind fun t418 => ((impl_ApplyEdits.f k t415 t418).bind fun bt421 => ((laws_eqEntryS.f k bt421.1 bt411.1).bind fun t425 => (if t425 = true then (laws_FnExactApplyEdits.j0 k l0 l1 bt411.1 bt411.2 t415 t418 bt421.1 bt421.2 (bt421.2 != bt411.2)) else (laws_FnExactApplyEdits.j0 k l0 l1 bt411.1 bt411.2 t415 t418 bt421.1 bt421.2 true)))))))))))) = some true := H
  have A3 := Aside0.mk A30
  clear A30
  by_cases c4 : t403 < 0
  · rw [if_pos c4] at H
    have c4b0 : decide (t403 < 0) = true := decide_eq_true c4
    clear c4
    clear H
    go_enter Try.func5, Try.ntmps5
    go_wp2_with (first | ((with_reducible refine gate_callee (f := 15) rfl ?_); refine goesL_ (some 19) rfl rfl Try.func15 (by kernel_rfl) rfl #[.slice A0 l0.length c0, .int .i64 1048576] rfl gA ?_; (with_reducible refine (laws_szEntryS.calls k _ _ l0 1048576 t403 _ ?side1 ?side2 A3.out).mono ?_); (case side1 => exact cN HR0); (case side2 => exact HC0.out); rintro e w5 ⟨rfl, hb⟩; refine ⟨_, rfl, ?_⟩; have n0_ := Aside0.mk (below_step (w := w) bW hb); clear HB; have HB := n0_; clear n0_; (try clear hb); (try clear hb2); (try clear hk); (try clear hi)))
    go_ret
    exact ⟨rE, bW⟩
  · rw [if_neg c4] at H
    have c4b0 : decide (t403 < 0) = false := decide_eq_false c4
    clear c4
    replace H := Option.bind_eq_some_iff.mp H
    obtain ⟨t404, A60, H⟩ := H
    replace H : (if t404 < 0 then (some true) else ((laws_toEntryS.f k l0).bind fun t405 => ((laws_toEditS.f k l1).bind fun t408 => ((spec_ApplyEdits.f k t405 t408).bind fun bt411 => ((laws_toEntryS.f k l0).bind fun t415 => ((laws_toEditS.f k l1).bind fun t418 => ((impl_ApplyEdits.f k t415 t418).bind fun bt421 => ((laws_eqEntryS.f k bt421.1 bt411.1).bind fun t425 => (if t425 = true then (laws_FnExactApplyEdits.j0 k l0 l1 bt411.1 bt411.2 t415 t418 bt421.1 bt421.2 (bt421.2 != bt411.2)) else (laws_FnExactApplyEdits.j0 k l0 l1 bt411.1 bt411.2 t415 t418 bt421.1 bt421.2 true)))))))))) = some true := H
    have A6 := Aside0.mk A60
    clear A60
    by_cases c7 : t404 < 0
    · rw [if_pos c7] at H
      have c7b0 : decide (t404 < 0) = true := decide_eq_true c7
      clear c7
      clear H
      go_enter Try.func5, Try.ntmps5
      go_wp2_with (first | ((with_reducible refine gate_callee (f := 15) rfl ?_); refine goesL_ (some 19) rfl rfl Try.func15 (by kernel_rfl) rfl #[.slice A0 l0.length c0, .int .i64 1048576] rfl gA ?_; (with_reducible refine (laws_szEntryS.calls k _ _ l0 1048576 t403 _ ?side1 ?side2 A3.out).mono ?_); (case side1 => exact cN HR0); (case side2 => exact HC0.out); rintro e w8 ⟨rfl, hb⟩; refine ⟨_, rfl, ?_⟩; have n0_ := Aside0.mk (below_step (w := w) bW hb); clear HB; have HB := n0_; clear n0_; (try clear hb); (try clear hb2); (try clear hk); (try clear hi)) | ((with_reducible refine gate_callee (f := 24) rfl ?_); refine goesL_ (some 24) rfl rfl Try.func24 (by kernel_rfl) rfl #[.slice A1 l1.length c1, .int .i64 t403] rfl gA ?_; (with_reducible refine (laws_szEditS.calls k _ _ l1 t403 t404 _ ?side1 ?side2 A6.out).mono ?_); (case side1 => exact cB HR1); (case side2 => exact HC1.out); rintro e w9 ⟨rfl, hb⟩; refine ⟨_, rfl, ?_⟩; have n0_ := Aside0.mk (below_step (w := w) bW hb); clear HB; have HB := n0_; clear n0_; (try clear hb); (try clear hb2); (try clear hk); (try clear hi)))
      go_ret
      exact ⟨rE, bW⟩
    · rw [if_neg c7] at H
      have c7b0 : decide (t404 < 0) = false := decide_eq_false c7
      clear c7
      replace H := Option.bind_eq_some_iff.mp H
      obtain ⟨t405, A100, H⟩ := H
      replace H : ((laws_toEditS.f k l1).bind fun t408 => ((spec_ApplyEdits.f k t405 t408).bind fun bt411 => ((laws_toEntryS.f k l0).bind fun t415 => ((laws_toEditS.f k l1).bind fun t418 => ((impl_ApplyEdits.f k t415 t418).bind fun bt421 => ((laws_eqEntryS.f k bt421.1 bt411.1).bind fun t425 => (if t425 = true then (laws_FnExactApplyEdits.j0 k l0 l1 bt411.1 bt411.2 t415 t418 bt421.1 bt421.2 (bt421.2 != bt411.2)) else (laws_FnExactApplyEdits.j0 k l0 l1 bt411.1 bt411.2 t415 t418 bt421.1 bt421.2 true)))))))) = some true := H
      have A10 := Aside0.mk A100
      clear A100
      replace H := Option.bind_eq_some_iff.mp H
      obtain ⟨t408, A110, H⟩ := H
      replace H : ((spec_ApplyEdits.f k t405 t408).bind fun bt411 => ((laws_toEntryS.f k l0).bind fun t415 => ((laws_toEditS.f k l1).bind fun t418 => ((impl_ApplyEdits.f k t415 t418).bind fun bt421 => ((laws_eqEntryS.f k bt421.1 bt411.1).bind fun t425 => (if t425 = true then (laws_FnExactApplyEdits.j0 k l0 l1 bt411.1 bt411.2 t415 t418 bt421.1 bt421.2 (bt421.2 != bt411.2)) else (laws_FnExactApplyEdits.j0 k l0 l1 bt411.1 bt411.2 t415 t418 bt421.1 bt421.2 true))))))) = some true := H
      have A11 := Aside0.mk A110
      clear A110
      replace H := Option.bind_eq_some_iff.mp H
      obtain ⟨⟨t411, t412⟩, A120, H⟩ := H
      replace H : ((laws_toEntryS.f k l0).bind fun t415 => ((laws_toEditS.f k l1).bind fun t418 => ((impl_ApplyEdits.f k t415 t418).bind fun bt421 => ((laws_eqEntryS.f k bt421.1 t411).bind fun t425 => (if t425 = true then (laws_FnExactApplyEdits.j0 k l0 l1 t411 t412 t415 t418 bt421.1 bt421.2 (bt421.2 != t412)) else (laws_FnExactApplyEdits.j0 k l0 l1 t411 t412 t415 t418 bt421.1 bt421.2 true)))))) = some true := H
      have A12 := Aside0.mk A120
      clear A120
      replace H := Option.bind_eq_some_iff.mp H
      obtain ⟨t415, A130, H⟩ := H
      replace H : ((laws_toEditS.f k l1).bind fun t418 => ((impl_ApplyEdits.f k t415 t418).bind fun bt421 => ((laws_eqEntryS.f k bt421.1 t411).bind fun t425 => (if t425 = true then (laws_FnExactApplyEdits.j0 k l0 l1 t411 t412 t415 t418 bt421.1 bt421.2 (bt421.2 != t412)) else (laws_FnExactApplyEdits.j0 k l0 l1 t411 t412 t415 t418 bt421.1 bt421.2 true))))) = some true := H
      have A13 := Aside0.mk A130
      clear A130
      replace H := Option.bind_eq_some_iff.mp H
      obtain ⟨t418, A140, H⟩ := H
      replace H : ((impl_ApplyEdits.f k t415 t418).bind fun bt421 => ((laws_eqEntryS.f k bt421.1 t411).bind fun t425 => (if t425 = true then (laws_FnExactApplyEdits.j0 k l0 l1 t411 t412 t415 t418 bt421.1 bt421.2 (bt421.2 != t412)) else (laws_FnExactApplyEdits.j0 k l0 l1 t411 t412 t415 t418 bt421.1 bt421.2 true)))) = some true := H
      have A14 := Aside0.mk A140
      clear A140
      replace H := Option.bind_eq_some_iff.mp H
      obtain ⟨⟨t421, t422⟩, A150, H⟩ := H
      replace H : ((laws_eqEntryS.f k t421 t411).bind fun t425 => (if t425 = true then (laws_FnExactApplyEdits.j0 k l0 l1 t411 t412 t415 t418 t421 t422 (t422 != t412)) else (laws_FnExactApplyEdits.j0 k l0 l1 t411 t412 t415 t418 t421 t422 true))) = some true := H
      have A15 := Aside0.mk A150
      clear A150
      have HC16 := Aside0.mk H
      clear H
      go_enter Try.func5, Try.ntmps5
      go_upto_region 12 with (first | ((with_reducible refine gate_callee (f := 15) rfl ?_); refine goesL_ (some 19) rfl rfl Try.func15 (by kernel_rfl) rfl #[.slice A0 l0.length c0, .int .i64 1048576] rfl gA ?_; (with_reducible refine (laws_szEntryS.calls k _ _ l0 1048576 t403 _ ?side1 ?side2 A3.out).mono ?_); (case side1 => exact cN HR0); (case side2 => exact HC0.out); rintro e w17 ⟨rfl, hb⟩; refine ⟨_, rfl, ?_⟩; have n0_ := Aside0.mk (below_step (w := w) bW hb); clear HB; have HB := n0_; clear n0_; (try clear hb); (try clear hb2); (try clear hk); (try clear hi)) | ((with_reducible refine gate_callee (f := 24) rfl ?_); refine goesL_ (some 24) rfl rfl Try.func24 (by kernel_rfl) rfl #[.slice A1 l1.length c1, .int .i64 t403] rfl gA ?_; (with_reducible refine (laws_szEditS.calls k _ _ l1 t403 t404 _ ?side1 ?side2 A6.out).mono ?_); (case side1 => exact cB HR1); (case side2 => exact HC1.out); rintro e w18 ⟨rfl, hb⟩; refine ⟨_, rfl, ?_⟩; have n0_ := Aside0.mk (below_step (w := w) bW hb); clear HB; have HB := n0_; clear n0_; (try clear hb); (try clear hb2); (try clear hk); (try clear hi)) | ((with_reducible refine gate_callee (f := 17) rfl ?_); refine goesL_ (some 29) rfl rfl Try.func17 (by kernel_rfl) rfl #[.slice A0 l0.length c0] rfl gA ?_; (with_reducible refine (laws_toEntryS.calls k _ _ l0 t405 _ ?side1 ?side2 A10.out).mono ?_); (case side1 => exact cB HR0); (case side2 => exact HC0.out); rintro e w19 ⟨v406, rfl, ho0, hb⟩; refine ⟨_, rfl, ?_⟩; have n0_ := Aside0.mk (Kd.R_lower ho0 (below_size (w := w) bW)); have n1_ := Aside0.mk (below_step (w := w) bW hb); clear HB; have HO407 := n0_; have HB := n1_; clear n0_ n1_; (try clear hb); (try clear hb2); (try clear hk); (try clear hi); (try clear ho0)) | ((with_reducible refine gate_callee (f := 26) rfl ?_); refine goesL_ (some 31) rfl rfl Try.func26 (by kernel_rfl) rfl #[.slice A1 l1.length c1] rfl gA ?_; (with_reducible refine (laws_toEditS.calls k _ _ l1 t408 _ ?side1 ?side2 A11.out).mono ?_); (case side1 => exact cB HR1); (case side2 => exact HC1.out); rintro e w20 ⟨v409, rfl, ho0, hb⟩; refine ⟨_, rfl, ?_⟩; have n0_ := Aside0.mk (Kd.R_below (pR HO407) hb); have n1_ := Aside0.mk (Kd.R_lower ho0 (below_size (w := w) bW)); have n2_ := Aside0.mk (below_step (w := w) bW hb); clear HO407; clear HB; have HO407 := n0_; have HO410 := n1_; have HB := n2_; clear n0_ n1_ n2_; (try clear hb); (try clear hb2); (try clear hk); (try clear hi); (try clear ho0); obtain ⟨Ao21, co21, eo21⟩ := Kd.R_slice HO407.out; subst eo21; obtain ⟨Ao22, co22, eo22⟩ := Kd.R_slice HO410.out; subst eo22) | ((with_reducible refine gate_callee (f := 25) rfl ?_); refine goesL_ (some 32) rfl rfl Try.func25 (by kernel_rfl) rfl #[.slice Ao21 t405.length co21, .slice Ao22 t408.length co22] rfl gA ?_; (with_reducible refine (spec_ApplyEdits.calls k _ _ t405 _ _ t408 t411 t412 _ ?side1 ?side2 ?side3 ?side4 A12.out).mono ?_); (case side1 => repeat (first | exact (Kd.R_reads' HO407.out).2.2 | (with_reducible refine Kd.C_alloc ?_ _) | (with_reducible refine Kd.C_drewN ?_ _) | (with_reducible refine Kd.C_drew ?_))); (case side2 => exact (Kd.R_reads' HO407.out).2.1); (case side3 => repeat (first | exact (Kd.R_reads' HO410.out).2.2 | (with_reducible refine Kd.C_alloc ?_ _) | (with_reducible refine Kd.C_drewN ?_ _) | (with_reducible refine Kd.C_drew ?_))); (case side4 => exact (Kd.R_reads' HO410.out).2.1); rintro e w23 ⟨v413, rfl, ho0, hb⟩; refine ⟨_, rfl, ?_⟩; have n0_ := Aside0.mk (Kd.R_elder' (pR HO407) (Kd.R_base ho0) hb); have n1_ := Aside0.mk (Kd.R_below (pR HO410) hb); have n2_ := Aside0.mk (Kd.R_lower (Kd.R_new' ho0 (Kd.R_lt (pR HO407))) (below_size (w := w) bW)); have n3_ := Aside0.mk (below_step (w := w) bW hb); clear HO407; clear HO410; clear HB; have HO407 := n0_; have HO410 := n1_; have HO414 := n2_; have HB := n3_; clear n0_ n1_ n2_ n3_; (try clear hb); (try clear hb2); (try clear hk); (try clear hi); (try clear ho0)) | ((with_reducible refine gate_callee (f := 17) rfl ?_); refine goesL_ (some 36) rfl rfl Try.func17 (by kernel_rfl) rfl #[.slice A0 l0.length c0] rfl gA ?_; (with_reducible refine (laws_toEntryS.calls k _ _ l0 t415 _ ?side1 ?side2 A13.out).mono ?_); (case side1 => exact cB HR0); (case side2 => exact HC0.out); rintro e w24 ⟨v416, rfl, ho0, hb⟩; refine ⟨_, rfl, ?_⟩; have n0_ := Aside0.mk (Kd.R_elder' (pR HO407) (Kd.R_base ho0) hb); have n1_ := Aside0.mk (Kd.R_below (pR HO410) hb); have n2_ := Aside0.mk (Kd.R_elder' (pR HO414) (Kd.R_base ho0) hb); have n3_ := Aside0.mk (Kd.R_lower (Kd.R_new' (Kd.R_new' ho0 (Kd.R_lt (pR HO407))) (Kd.R_lt (pR HO414))) (below_size (w := w) bW)); have n4_ := Aside0.mk (below_step (w := w) bW hb); clear HO407; clear HO410; clear HO414; clear HB; have HO407 := n0_; have HO410 := n1_; have HO414 := n2_; have HO417 := n3_; have HB := n4_; clear n0_ n1_ n2_ n3_ n4_; (try clear hb); (try clear hb2); (try clear hk); (try clear hi); (try clear ho0)) | ((with_reducible refine gate_callee (f := 26) rfl ?_); refine goesL_ (some 38) rfl rfl Try.func26 (by kernel_rfl) rfl #[.slice A1 l1.length c1] rfl gA ?_; (with_reducible refine (laws_toEditS.calls k _ _ l1 t418 _ ?side1 ?side2 A14.out).mono ?_); (case side1 => exact cB HR1); (case side2 => exact HC1.out); rintro e w25 ⟨v419, rfl, ho0, hb⟩; refine ⟨_, rfl, ?_⟩; have n0_ := Aside0.mk (Kd.R_below (pR HO407) hb); have n1_ := Aside0.mk (Kd.R_elder' (pR HO410) (Kd.R_base ho0) hb); have n2_ := Aside0.mk (Kd.R_below (pR HO414) hb); have n3_ := Aside0.mk (Kd.R_below (pR HO417) hb); have n4_ := Aside0.mk (Kd.R_lower (Kd.R_new' ho0 (Kd.R_lt (pR HO410))) (below_size (w := w) bW)); have n5_ := Aside0.mk (below_step (w := w) bW hb); clear HO407; clear HO410; clear HO414; clear HO417; clear HB; have HO407 := n0_; have HO410 := n1_; have HO414 := n2_; have HO417 := n3_; have HO420 := n4_; have HB := n5_; clear n0_ n1_ n2_ n3_ n4_ n5_; (try clear hb); (try clear hb2); (try clear hk); (try clear hi); (try clear ho0); obtain ⟨Ao26, co26, eo26⟩ := Kd.R_slice HO417.out; subst eo26; obtain ⟨Ao27, co27, eo27⟩ := Kd.R_slice HO420.out; subst eo27) | ((with_reducible refine gate_callee (f := 27) rfl ?_); refine goesL_ (some 42) rfl rfl Try.func27 (by kernel_rfl) rfl #[.slice Ao26 t415.length co26, .slice Ao27 t418.length co27] rfl gA ?_; (with_reducible refine (impl_ApplyEdits.calls k _ _ t415 _ _ t418 t421 t422 _ ?side1 ?side2 ?side3 ?side4 A15.out).mono ?_); (case side1 => repeat (first | exact (Kd.R_reads' HO417.out).2.2 | (with_reducible refine Kd.C_alloc ?_ _) | (with_reducible refine Kd.C_drewN ?_ _) | (with_reducible refine Kd.C_drew ?_))); (case side2 => exact (Kd.R_reads' HO417.out).2.1); (case side3 => repeat (first | exact (Kd.R_reads' HO420.out).2.2 | (with_reducible refine Kd.C_alloc ?_ _) | (with_reducible refine Kd.C_drewN ?_ _) | (with_reducible refine Kd.C_drew ?_))); (case side4 => exact (Kd.R_reads' HO420.out).2.1); rintro e w28 ⟨v423, rfl, ho0, hb⟩; refine ⟨_, rfl, ?_⟩; have n0_ := Aside0.mk (Kd.R_elder' (pR HO407) (Kd.R_base ho0) hb); have n1_ := Aside0.mk (Kd.R_below (pR HO410) hb); have n2_ := Aside0.mk (Kd.R_elder' (pR HO414) (Kd.R_base ho0) hb); have n3_ := Aside0.mk (Kd.R_elder' (pR HO417) (Kd.R_base ho0) hb); have n4_ := Aside0.mk (Kd.R_below (pR HO420) hb); have n5_ := Aside0.mk (Kd.R_lower (Kd.R_new' (Kd.R_new' (Kd.R_new' ho0 (Kd.R_lt (pR HO407))) (Kd.R_lt (pR HO414))) (Kd.R_lt (pR HO417))) (below_size (w := w) bW)); have n6_ := Aside0.mk (below_step (w := w) bW hb); clear HO407; clear HO410; clear HO414; clear HO417; clear HO420; clear HB; have HO407 := n0_; have HO410 := n1_; have HO414 := n2_; have HO417 := n3_; have HO420 := n4_; have HO424 := n5_; have HB := n6_; clear n0_ n1_ n2_ n3_ n4_ n5_ n6_; (try clear hb); (try clear hb2); (try clear hk); (try clear hi); (try clear ho0)))
      (try simp only [Act.put, List.setIfInBounds_toArray, List.set_cons_zero, List.set_cons_succ])
      go_cut [53] (fun v53 wc => ∃ (kq : Nat) (x53_15 : Bool), v53 = .bool x53_15 ∧ Aside0 (laws_FnExactApplyEdits.j0 kq l0 l1 t411 t412 t415 t418 t421 t422 x53_15 = some true) ∧ Aside0 (kq ≤ k) ∧ Aside0 (Kd.R k51 51 wc w.heap.size (fun k_ => some k_ ≠ ((.slice Ao26 t415.length co26) : Value).ownBlock ∧ some k_ ≠ (v423 : Value).ownBlock) v413 t411) ∧ Aside0 (Kd.R k51 51 wc w.heap.size (fun k_ => some k_ ≠ (v413 : Value).ownBlock ∧ some k_ ≠ (v423 : Value).ownBlock) (.slice Ao26 t415.length co26) t415) ∧ Aside0 (Kd.R k134 134 wc w.heap.size (fun _ => True) (.slice Ao27 t418.length co27) t418) ∧ Aside0 (Kd.R k51 51 wc w.heap.size (fun k_ => some k_ ≠ (v413 : Value).ownBlock ∧ some k_ ≠ ((.slice Ao26 t415.length co26) : Value).ownBlock) v423 t421) ∧ Aside0 (Below w.heap.size w wc))
      case first =>
        have H := HC16.out
        clear HC16
        replace H := Option.bind_eq_some_iff.mp H
        obtain ⟨t425, A290, H⟩ := H
        replace H : (if t425 = true then (laws_FnExactApplyEdits.j0 k l0 l1 t411 t412 t415 t418 t421 t422 (t422 != t412)) else (laws_FnExactApplyEdits.j0 k l0 l1 t411 t412 t415 t418 t421 t422 true)) = some true := H
        have A29 := Aside0.mk A290
        clear A290
        by_cases c30 : t425 = true
        · subst c30
          have H1 : (laws_FnExactApplyEdits.j0 k l0 l1 t411 t412 t415 t418 t421 t422 (t422 != t412)) = some true := by rw [if_pos rfl] at H; exact H
          clear H
          have H := H1
          clear H1
          have H' := Aside0.mk H
          clear H
          obtain ⟨Ao31, co31, eo31⟩ := Kd.R_slice HO424.out
          subst eo31
          obtain ⟨Ao32, co32, eo32⟩ := Kd.R_slice HO414.out
          subst eo32
          go_wp2_with (first | ((with_reducible refine gate_callee (f := 19) rfl ?_); refine goesL_ (some 47) rfl rfl Try.func19 (by kernel_rfl) rfl #[.slice Ao31 t421.length co31, .slice Ao32 t411.length co32] rfl gA ?_; (with_reducible refine (laws_eqEntryS.calls k _ _ t421 _ _ t411 true _ ?side1 ?side2 ?side3 ?side4 A29.out).mono ?_); (case side1 => repeat (first | exact (Kd.R_reads' HO424.out).2.2 | (with_reducible refine Kd.C_alloc ?_ _) | (with_reducible refine Kd.C_drewN ?_ _) | (with_reducible refine Kd.C_drew ?_))); (case side2 => exact (Kd.R_reads' HO424.out).2.1); (case side3 => repeat (first | exact (Kd.R_reads' HO414.out).2.2 | (with_reducible refine Kd.C_alloc ?_ _) | (with_reducible refine Kd.C_drewN ?_ _) | (with_reducible refine Kd.C_drew ?_))); (case side4 => exact (Kd.R_reads' HO414.out).2.1); rintro e w33 ⟨rfl, hb⟩; refine ⟨_, rfl, ?_⟩; have n0_ := Aside0.mk (Kd.R_below (pR HO407) hb); have n1_ := Aside0.mk (Kd.R_below (pR HO410) hb); have n2_ := Aside0.mk (Kd.R_below (pR HO414) hb); have n3_ := Aside0.mk (Kd.R_below (pR HO417) hb); have n4_ := Aside0.mk (Kd.R_below (pR HO420) hb); have n5_ := Aside0.mk (Kd.R_below (pR HO424) hb); have n6_ := Aside0.mk (below_step (w := w) bW hb); clear HO407; clear HO410; clear HO414; clear HO417; clear HO420; clear HO424; clear HB; have HO407 := n0_; have HO410 := n1_; have HO414 := n2_; have HO417 := n3_; have HO420 := n4_; have HO424 := n5_; have HB := n6_; clear n0_ n1_ n2_ n3_ n4_ n5_ n6_; (try clear hb); (try clear hb2); (try clear hk); (try clear hi)))
          go_meet
          case rel => exact ⟨_, ((t422 != t412)), vE, H', ⟨by first | omega | exact Nat.le_refl _⟩, ⟨by (with_reducible repeat (first | apply Kd.R_alloc | apply Kd.R_drewN | apply Kd.R_drew)); exact Kd.R_mono HO414.out (fun _ hk => ⟨hk.1.2, hk.2⟩)⟩, ⟨by (with_reducible repeat (first | apply Kd.R_alloc | apply Kd.R_drewN | apply Kd.R_drew)); exact Kd.R_mono HO417.out (fun _ hk => ⟨hk.1.2, hk.2⟩)⟩, ⟨by (with_reducible repeat (first | apply Kd.R_alloc | apply Kd.R_drewN | apply Kd.R_drew)); exact Kd.R_mono HO420.out (fun _ hk => trivial)⟩, ⟨by (with_reducible repeat (first | apply Kd.R_alloc | apply Kd.R_drewN | apply Kd.R_drew)); exact Kd.R_mono HO424.out (fun _ hk => ⟨hk.1.2, hk.2⟩)⟩, ⟨bW⟩⟩
        · replace c30 := Bool.eq_false_iff.mpr c30
          subst c30
          have H1 : (laws_FnExactApplyEdits.j0 k l0 l1 t411 t412 t415 t418 t421 t422 true) = some true := by rw [if_neg (show ¬ (false = true) by decide)] at H; exact H
          clear H
          have H := H1
          clear H1
          have H' := Aside0.mk H
          clear H
          obtain ⟨Ao34, co34, eo34⟩ := Kd.R_slice HO424.out
          subst eo34
          obtain ⟨Ao35, co35, eo35⟩ := Kd.R_slice HO414.out
          subst eo35
          go_wp2_with (first | ((with_reducible refine gate_callee (f := 19) rfl ?_); refine goesL_ (some 47) rfl rfl Try.func19 (by kernel_rfl) rfl #[.slice Ao34 t421.length co34, .slice Ao35 t411.length co35] rfl gA ?_; (with_reducible refine (laws_eqEntryS.calls k _ _ t421 _ _ t411 false _ ?side1 ?side2 ?side3 ?side4 A29.out).mono ?_); (case side1 => repeat (first | exact (Kd.R_reads' HO424.out).2.2 | (with_reducible refine Kd.C_alloc ?_ _) | (with_reducible refine Kd.C_drewN ?_ _) | (with_reducible refine Kd.C_drew ?_))); (case side2 => exact (Kd.R_reads' HO424.out).2.1); (case side3 => repeat (first | exact (Kd.R_reads' HO414.out).2.2 | (with_reducible refine Kd.C_alloc ?_ _) | (with_reducible refine Kd.C_drewN ?_ _) | (with_reducible refine Kd.C_drew ?_))); (case side4 => exact (Kd.R_reads' HO414.out).2.1); rintro e w36 ⟨rfl, hb⟩; refine ⟨_, rfl, ?_⟩; have n0_ := Aside0.mk (Kd.R_below (pR HO407) hb); have n1_ := Aside0.mk (Kd.R_below (pR HO410) hb); have n2_ := Aside0.mk (Kd.R_below (pR HO414) hb); have n3_ := Aside0.mk (Kd.R_below (pR HO417) hb); have n4_ := Aside0.mk (Kd.R_below (pR HO420) hb); have n5_ := Aside0.mk (Kd.R_below (pR HO424) hb); have n6_ := Aside0.mk (below_step (w := w) bW hb); clear HO407; clear HO410; clear HO414; clear HO417; clear HO420; clear HO424; clear HB; have HO407 := n0_; have HO410 := n1_; have HO414 := n2_; have HO417 := n3_; have HO420 := n4_; have HO424 := n5_; have HB := n6_; clear n0_ n1_ n2_ n3_ n4_ n5_ n6_; (try clear hb); (try clear hb2); (try clear hk); (try clear hi)))
          go_meet
          case rel => exact ⟨_, (true), vE, H', ⟨by first | omega | exact Nat.le_refl _⟩, ⟨by (with_reducible repeat (first | apply Kd.R_alloc | apply Kd.R_drewN | apply Kd.R_drew)); exact Kd.R_mono HO414.out (fun _ hk => ⟨hk.1.2, hk.2⟩)⟩, ⟨by (with_reducible repeat (first | apply Kd.R_alloc | apply Kd.R_drewN | apply Kd.R_drew)); exact Kd.R_mono HO417.out (fun _ hk => ⟨hk.1.2, hk.2⟩)⟩, ⟨by (with_reducible repeat (first | apply Kd.R_alloc | apply Kd.R_drewN | apply Kd.R_drew)); exact Kd.R_mono HO420.out (fun _ hk => trivial)⟩, ⟨by (with_reducible repeat (first | apply Kd.R_alloc | apply Kd.R_drewN | apply Kd.R_drew)); exact Kd.R_mono HO424.out (fun _ hk => ⟨hk.1.2, hk.2⟩)⟩, ⟨bW⟩⟩
      case rest =>
        clear HC16
        try clear c1
        try clear c2
        try clear p2
        try clear c3
        try clear c4
        try clear c4b0
        try clear c5
        try clear c7
        try clear c7b0
        try clear c15
        try clear c17
        try clear c19
        try clear c24
        try clear c25
        try clear c26
        try clear c27
        try clear c30
        obtain ⟨kq, x53_15, rfl, HA, HJ15, HO_6, HO_8, HO_9, HO_10, HB⟩ := hcut
        cases kq with
        | zero => exact absurd HA.out (by simp [laws_FnExactApplyEdits.j0])
        | succ kj15 =>
          have H := HA.out
          clear HA
          simp only [laws_FnExactApplyEdits.j0] at H
          by_cases c37 : x53_15 = true
          · subst c37
            have H1 : (some false) = some true := by rw [if_pos rfl] at H; exact H
            exact absurd H1 (by simp)
          · replace c37 := Bool.eq_false_iff.mpr c37
            subst c37
            have H1 : ((laws_toEntryS.f kj15 l0).bind fun t426 => ((laws_eqEntryS.f kj15 t415 t426).bind fun t429 => (if t429 = true then ((laws_toEditS.f kj15 l1).bind fun t430 => ((laws_eqEditS.f kj15 t418 t430).bind fun t433 => (if t433 = true then ((laws_markEntryS.f kj15 t415 1).bind fun bt434 => ((laws_markEditS.f kj15 t418 bt434.1).bind fun bt436 => (if bt436.1 < 0 then (laws_FnExactApplyEdits.j1 kj15 l0 l1 t411 t412 t421 true) else ((laws_eqEntryS.f kj15 t421 t411).bind fun t438 => (if t438 = true then (laws_FnExactApplyEdits.j1 kj15 l0 l1 t411 t412 t421 (t422 != t412)) else (laws_FnExactApplyEdits.j1 kj15 l0 l1 t411 t412 t421 true)))))) else (some false)))) else (some false)))) = some true := by rw [if_neg (show ¬ (false = true) by decide)] at H; exact H
            clear H
            have H := H1
            clear H1
            replace H := Option.bind_eq_some_iff.mp H
            obtain ⟨t426, A380, H⟩ := H
            replace H : ((laws_eqEntryS.f kj15 t415 t426).bind fun t429 => (if t429 = true then ((laws_toEditS.f kj15 l1).bind fun t430 => ((laws_eqEditS.f kj15 t418 t430).bind fun t433 => (if t433 = true then ((laws_markEntryS.f kj15 t415 1).bind fun bt434 => ((laws_markEditS.f kj15 t418 bt434.1).bind fun bt436 => (if bt436.1 < 0 then (laws_FnExactApplyEdits.j1 kj15 l0 l1 t411 t412 t421 true) else ((laws_eqEntryS.f kj15 t421 t411).bind fun t438 => (if t438 = true then (laws_FnExactApplyEdits.j1 kj15 l0 l1 t411 t412 t421 (t422 != t412)) else (laws_FnExactApplyEdits.j1 kj15 l0 l1 t411 t412 t421 true)))))) else (some false)))) else (some false))) = some true := H
            have A38 := Aside0.mk A380
            clear A380
            replace H := Option.bind_eq_some_iff.mp H
            obtain ⟨t429, A390, H⟩ := H
            replace H : (if t429 = true then ((laws_toEditS.f kj15 l1).bind fun t430 => ((laws_eqEditS.f kj15 t418 t430).bind fun t433 => (if t433 = true then ((laws_markEntryS.f kj15 t415 1).bind fun bt434 => ((laws_markEditS.f kj15 t418 bt434.1).bind fun bt436 => (if bt436.1 < 0 then (laws_FnExactApplyEdits.j1 kj15 l0 l1 t411 t412 t421 true) else ((laws_eqEntryS.f kj15 t421 t411).bind fun t438 => (if t438 = true then (laws_FnExactApplyEdits.j1 kj15 l0 l1 t411 t412 t421 (t422 != t412)) else (laws_FnExactApplyEdits.j1 kj15 l0 l1 t411 t412 t421 true)))))) else (some false)))) else (some false)) = some true := H
            have A39 := Aside0.mk A390
            clear A390
            by_cases c40 : t429 = true
            · subst c40
              have H1 : ((laws_toEditS.f kj15 l1).bind fun t430 => ((laws_eqEditS.f kj15 t418 t430).bind fun t433 => (if t433 = true then ((laws_markEntryS.f kj15 t415 1).bind fun bt434 => ((laws_markEditS.f kj15 t418 bt434.1).bind fun bt436 => (if bt436.1 < 0 then (laws_FnExactApplyEdits.j1 kj15 l0 l1 t411 t412 t421 true) else ((laws_eqEntryS.f kj15 t421 t411).bind fun t438 => (if t438 = true then (laws_FnExactApplyEdits.j1 kj15 l0 l1 t411 t412 t421 (t422 != t412)) else (laws_FnExactApplyEdits.j1 kj15 l0 l1 t411 t412 t421 true)))))) else (some false)))) = some true := by rw [if_pos rfl] at H; exact H
              clear H
              have H := H1
              clear H1
              replace H := Option.bind_eq_some_iff.mp H
              obtain ⟨t430, A410, H⟩ := H
              replace H : ((laws_eqEditS.f kj15 t418 t430).bind fun t433 => (if t433 = true then ((laws_markEntryS.f kj15 t415 1).bind fun bt434 => ((laws_markEditS.f kj15 t418 bt434.1).bind fun bt436 => (if bt436.1 < 0 then (laws_FnExactApplyEdits.j1 kj15 l0 l1 t411 t412 t421 true) else ((laws_eqEntryS.f kj15 t421 t411).bind fun t438 => (if t438 = true then (laws_FnExactApplyEdits.j1 kj15 l0 l1 t411 t412 t421 (t422 != t412)) else (laws_FnExactApplyEdits.j1 kj15 l0 l1 t411 t412 t421 true)))))) else (some false))) = some true := H
              have A41 := Aside0.mk A410
              clear A410
              replace H := Option.bind_eq_some_iff.mp H
              obtain ⟨t433, A420, H⟩ := H
              replace H : (if t433 = true then ((laws_markEntryS.f kj15 t415 1).bind fun bt434 => ((laws_markEditS.f kj15 t418 bt434.1).bind fun bt436 => (if bt436.1 < 0 then (laws_FnExactApplyEdits.j1 kj15 l0 l1 t411 t412 t421 true) else ((laws_eqEntryS.f kj15 t421 t411).bind fun t438 => (if t438 = true then (laws_FnExactApplyEdits.j1 kj15 l0 l1 t411 t412 t421 (t422 != t412)) else (laws_FnExactApplyEdits.j1 kj15 l0 l1 t411 t412 t421 true)))))) else (some false)) = some true := H
              have A42 := Aside0.mk A420
              clear A420
              by_cases c43 : t433 = true
              · subst c43
                have H1 : ((laws_markEntryS.f kj15 t415 1).bind fun bt434 => ((laws_markEditS.f kj15 t418 bt434.1).bind fun bt436 => (if bt436.1 < 0 then (laws_FnExactApplyEdits.j1 kj15 l0 l1 t411 t412 t421 true) else ((laws_eqEntryS.f kj15 t421 t411).bind fun t438 => (if t438 = true then (laws_FnExactApplyEdits.j1 kj15 l0 l1 t411 t412 t421 (t422 != t412)) else (laws_FnExactApplyEdits.j1 kj15 l0 l1 t411 t412 t421 true)))))) = some true := by rw [if_pos rfl] at H; exact H
                clear H
                have H := H1
                clear H1
                replace H := Option.bind_eq_some_iff.mp H
                obtain ⟨⟨t434, t435⟩, A440, H⟩ := H
                replace H : ((laws_markEditS.f kj15 t418 t434).bind fun bt436 => (if bt436.1 < 0 then (laws_FnExactApplyEdits.j1 kj15 l0 l1 t411 t412 t421 true) else ((laws_eqEntryS.f kj15 t421 t411).bind fun t438 => (if t438 = true then (laws_FnExactApplyEdits.j1 kj15 l0 l1 t411 t412 t421 (t422 != t412)) else (laws_FnExactApplyEdits.j1 kj15 l0 l1 t411 t412 t421 true))))) = some true := H
                have A44 := Aside0.mk A440
                clear A440
                replace H := Option.bind_eq_some_iff.mp H
                obtain ⟨⟨t436, t437⟩, A450, H⟩ := H
                replace H : (if t436 < 0 then (laws_FnExactApplyEdits.j1 kj15 l0 l1 t411 t412 t421 true) else ((laws_eqEntryS.f kj15 t421 t411).bind fun t438 => (if t438 = true then (laws_FnExactApplyEdits.j1 kj15 l0 l1 t411 t412 t421 (t422 != t412)) else (laws_FnExactApplyEdits.j1 kj15 l0 l1 t411 t412 t421 true)))) = some true := H
                have A45 := Aside0.mk A450
                clear A450
                have HC46 := Aside0.mk H
                clear H
                go_upto_region 21 with (first | ((with_reducible refine gate_callee (f := 17) rfl ?_); refine goesL_ (some 56) rfl rfl Try.func17 (by kernel_rfl) rfl #[.slice A0 l0.length c0] rfl gA ?_; (with_reducible refine (laws_toEntryS.calls kj15 _ _ l0 t426 _ ?side1 ?side2 A38.out).mono ?_); (case side1 => exact cB HR0); (case side2 => exact HC0.out); rintro e w47 ⟨v427, rfl, ho0, hb⟩; refine ⟨_, rfl, ?_⟩; have n0_ := Aside0.mk (Kd.R_elder' (pR HO_6) (Kd.R_base ho0) hb); have n1_ := Aside0.mk (Kd.R_elder' (pR HO_8) (Kd.R_base ho0) hb); have n2_ := Aside0.mk (Kd.R_below (pR HO_9) hb); have n3_ := Aside0.mk (Kd.R_elder' (pR HO_10) (Kd.R_base ho0) hb); have n4_ := Aside0.mk (Kd.R_lower (Kd.R_new' (Kd.R_new' (Kd.R_new' ho0 (Kd.R_lt (pR HO_6))) (Kd.R_lt (pR HO_8))) (Kd.R_lt (pR HO_10))) (below_size (w := w) bW)); have n5_ := Aside0.mk (below_step (w := w) bW hb); clear HO_6; clear HO_8; clear HO_9; clear HO_10; clear HB; have HO_6 := n0_; have HO_8 := n1_; have HO_9 := n2_; have HO_10 := n3_; have HO428 := n4_; have HB := n5_; clear n0_ n1_ n2_ n3_ n4_ n5_; (try clear hb); (try clear hb2); (try clear hk); (try clear hi); (try clear ho0); obtain ⟨Ao48, co48, eo48⟩ := Kd.R_slice HO428.out; subst eo48) | ((with_reducible refine gate_callee (f := 19) rfl ?_); refine goesL_ (some 57) rfl rfl Try.func19 (by kernel_rfl) rfl #[.slice Ao26 t415.length co26, .slice Ao48 t426.length co48] rfl gA ?_; (with_reducible refine (laws_eqEntryS.calls kj15 _ _ t415 _ _ t426 true _ ?side1 ?side2 ?side3 ?side4 A39.out).mono ?_); (case side1 => repeat (first | exact (Kd.R_reads' HO_8.out).2.2 | (with_reducible refine Kd.C_alloc ?_ _) | (with_reducible refine Kd.C_drewN ?_ _) | (with_reducible refine Kd.C_drew ?_))); (case side2 => exact (Kd.R_reads' HO_8.out).2.1); (case side3 => repeat (first | exact (Kd.R_reads' HO428.out).2.2 | (with_reducible refine Kd.C_alloc ?_ _) | (with_reducible refine Kd.C_drewN ?_ _) | (with_reducible refine Kd.C_drew ?_))); (case side4 => exact (Kd.R_reads' HO428.out).2.1); rintro e w49 ⟨rfl, hb⟩; refine ⟨_, rfl, ?_⟩; have n0_ := Aside0.mk (Kd.R_below (pR HO_6) hb); have n1_ := Aside0.mk (Kd.R_below (pR HO_8) hb); have n2_ := Aside0.mk (Kd.R_below (pR HO_9) hb); have n3_ := Aside0.mk (Kd.R_below (pR HO_10) hb); have n4_ := Aside0.mk (Kd.R_below (pR HO428) hb); have n5_ := Aside0.mk (below_step (w := w) bW hb); clear HO_6; clear HO_8; clear HO_9; clear HO_10; clear HO428; clear HB; have HO_6 := n0_; have HO_8 := n1_; have HO_9 := n2_; have HO_10 := n3_; have HO428 := n4_; have HB := n5_; clear n0_ n1_ n2_ n3_ n4_ n5_; (try clear hb); (try clear hb2); (try clear hk); (try clear hi)) | ((with_reducible refine gate_callee (f := 26) rfl ?_); refine goesL_ (some 61) rfl rfl Try.func26 (by kernel_rfl) rfl #[.slice A1 l1.length c1] rfl gA ?_; (with_reducible refine (laws_toEditS.calls kj15 _ _ l1 t430 _ ?side1 ?side2 A41.out).mono ?_); (case side1 => exact cB HR1); (case side2 => exact HC1.out); rintro e w50 ⟨v431, rfl, ho0, hb⟩; refine ⟨_, rfl, ?_⟩; have n0_ := Aside0.mk (Kd.R_below (pR HO_6) hb); have n1_ := Aside0.mk (Kd.R_below (pR HO_8) hb); have n2_ := Aside0.mk (Kd.R_elder' (pR HO_9) (Kd.R_base ho0) hb); have n3_ := Aside0.mk (Kd.R_below (pR HO_10) hb); have n4_ := Aside0.mk (Kd.R_below (pR HO428) hb); have n5_ := Aside0.mk (Kd.R_lower (Kd.R_new' ho0 (Kd.R_lt (pR HO_9))) (below_size (w := w) bW)); have n6_ := Aside0.mk (below_step (w := w) bW hb); clear HO_6; clear HO_8; clear HO_9; clear HO_10; clear HO428; clear HB; have HO_6 := n0_; have HO_8 := n1_; have HO_9 := n2_; have HO_10 := n3_; have HO428 := n4_; have HO432 := n5_; have HB := n6_; clear n0_ n1_ n2_ n3_ n4_ n5_ n6_; (try clear hb); (try clear hb2); (try clear hk); (try clear hi); (try clear ho0); obtain ⟨Ao51, co51, eo51⟩ := Kd.R_slice HO432.out; subst eo51) | ((with_reducible refine gate_callee (f := 28) rfl ?_); refine goesL_ (some 62) rfl rfl Try.func28 (by kernel_rfl) rfl #[.slice Ao27 t418.length co27, .slice Ao51 t430.length co51] rfl gA ?_; (with_reducible refine (laws_eqEditS.calls kj15 _ _ t418 _ _ t430 true _ ?side1 ?side2 ?side3 ?side4 A42.out).mono ?_); (case side1 => repeat (first | exact (Kd.R_reads' HO_9.out).2.2 | (with_reducible refine Kd.C_alloc ?_ _) | (with_reducible refine Kd.C_drewN ?_ _) | (with_reducible refine Kd.C_drew ?_))); (case side2 => exact (Kd.R_reads' HO_9.out).2.1); (case side3 => repeat (first | exact (Kd.R_reads' HO432.out).2.2 | (with_reducible refine Kd.C_alloc ?_ _) | (with_reducible refine Kd.C_drewN ?_ _) | (with_reducible refine Kd.C_drew ?_))); (case side4 => exact (Kd.R_reads' HO432.out).2.1); rintro e w52 ⟨rfl, hb⟩; refine ⟨_, rfl, ?_⟩; have n0_ := Aside0.mk (Kd.R_below (pR HO_6) hb); have n1_ := Aside0.mk (Kd.R_below (pR HO_8) hb); have n2_ := Aside0.mk (Kd.R_below (pR HO_9) hb); have n3_ := Aside0.mk (Kd.R_below (pR HO_10) hb); have n4_ := Aside0.mk (Kd.R_below (pR HO428) hb); have n5_ := Aside0.mk (Kd.R_below (pR HO432) hb); have n6_ := Aside0.mk (below_step (w := w) bW hb); clear HO_6; clear HO_8; clear HO_9; clear HO_10; clear HO428; clear HO432; clear HB; have HO_6 := n0_; have HO_8 := n1_; have HO_9 := n2_; have HO_10 := n3_; have HO428 := n4_; have HO432 := n5_; have HB := n6_; clear n0_ n1_ n2_ n3_ n4_ n5_ n6_; (try clear hb); (try clear hb2); (try clear hk); (try clear hi)) | ((with_reducible refine gate_callee (f := 20) rfl ?_); refine goesL_ (some 66) rfl rfl Try.func20 (by kernel_rfl) rfl #[.slice Ao26 t415.length co26, .int .i64 1] rfl gA ?_; (with_reducible refine (laws_markEntryS.calls kj15 (fun k_ => some k_ = (.slice Ao26 t415.length co26 : Value).ownBlock) (.slice Ao26 t415.length co26) t415 1 t434 t435 w _ ?side1 ?side2 A44.out).mono ?_); (case side1 => repeat (first | (with_reducible first | exact HB.out | apply below_alloc | apply pw_below_drewN | apply below_drew1) | exact HB.out)); (case side2 => exact Kd.R_tight rfl HO_8.out); rintro e w53 ⟨rfl, hy0, hb, hkp⟩; refine ⟨_, rfl, ?_⟩; have n0_ := Aside0.mk (Kd.R_mono (ok' := fun k_ => some k_ ≠ (.slice Ao26 t415.length co26 : Value).ownBlock ∧ some k_ ≠ (v423 : Value).ownBlock ∧ some k_ ≠ (.slice Ao48 t426.length co48 : Value).ownBlock) (Kd.R_keptB (HO_6.out) hkp (fun k_ hk_ hs_ => (hk_.1.1) hs_)) (fun k_ hk_ => ⟨hk_.1.1.1, hk_.1.1.2, hk_.1.2⟩)); have n1_ := Aside0.mk (Kd.R_reok rfl hy0 (fun k_ e_ => HO_8.out.1 k_ e_)); have n2_ := Aside0.mk (Kd.R_mono (ok' := fun k_ => some k_ ≠ (.slice Ao51 t430.length co51 : Value).ownBlock) (Kd.R_keptB ((Kd.R_apart' HO_9.out (Kd.R_typed HO_8.out) (by decide))) hkp (fun k_ hk_ hs_ => (hk_.2) hs_)) (fun k_ hk_ => hk_.1.1.2)); have n3_ := Aside0.mk (Kd.R_mono (ok' := fun k_ => some k_ ≠ (v413 : Value).ownBlock ∧ some k_ ≠ (.slice Ao26 t415.length co26 : Value).ownBlock ∧ some k_ ≠ (.slice Ao48 t426.length co48 : Value).ownBlock) (Kd.R_keptB (HO_10.out) hkp (fun k_ hk_ hs_ => (hk_.1.2) hs_)) (fun k_ hk_ => ⟨hk_.1.1.1, hk_.1.1.2, hk_.1.2⟩)); have n4_ := Aside0.mk (Kd.R_mono (ok' := fun k_ => some k_ ≠ (v413 : Value).ownBlock ∧ some k_ ≠ (.slice Ao26 t415.length co26 : Value).ownBlock ∧ some k_ ≠ (v423 : Value).ownBlock) (Kd.R_keptB (HO428.out) hkp (fun k_ hk_ hs_ => (hk_.1.2) hs_)) (fun k_ hk_ => ⟨hk_.1.1.1.2, hk_.1.1.2, hk_.1.2⟩)); have n5_ := Aside0.mk (Kd.R_mono (ok' := fun k_ => some k_ ≠ (.slice Ao27 t418.length co27 : Value).ownBlock) (Kd.R_keptB ((Kd.R_apart' HO432.out (Kd.R_typed HO_8.out) (by decide))) hkp (fun k_ hk_ hs_ => (hk_.2) hs_)) (fun k_ hk_ => hk_.1.1.2)); have n6_ := Aside0.mk (hb); clear HO_6; clear HO_8; clear HO_9; clear HO_10; clear HO428; clear HO432; clear HB; have HO_6 := n0_; have HO_8 := n1_; have HO_9 := n2_; have HO_10 := n3_; have HO428 := n4_; have HO432 := n5_; have HB := n6_; clear n0_ n1_ n2_ n3_ n4_ n5_ n6_; (try clear hb); (try clear hkp); (try clear hy0)) | ((with_reducible refine gate_callee (f := 29) rfl ?_); refine goesL_ (some 69) rfl rfl Try.func29 (by kernel_rfl) rfl #[.slice Ao27 t418.length co27, .int .i64 t434] rfl gA ?_; (with_reducible refine (laws_markEditS.calls kj15 (fun k_ => some k_ = (.slice Ao27 t418.length co27 : Value).ownBlock) (.slice Ao27 t418.length co27) t418 t434 t436 t437 w _ ?side1 ?side2 A45.out).mono ?_); (case side1 => repeat (first | (with_reducible first | exact HB.out | apply below_alloc | apply pw_below_drewN | apply below_drew1) | exact HB.out)); (case side2 => exact Kd.R_tight rfl HO_9.out); rintro e w54 ⟨rfl, hy0, hb, hkp⟩; refine ⟨_, rfl, ?_⟩; have n0_ := Aside0.mk (Kd.R_mono (ok' := fun k_ => some k_ ≠ (.slice Ao26 t415.length co26 : Value).ownBlock ∧ some k_ ≠ (v423 : Value).ownBlock ∧ some k_ ≠ (.slice Ao48 t426.length co48 : Value).ownBlock) (Kd.R_keptB ((Kd.R_apart' HO_6.out (Kd.R_typed HO_9.out) (by decide))) hkp (fun k_ hk_ hs_ => (hk_.2) hs_)) (fun k_ hk_ => ⟨hk_.1.1.1, hk_.1.1.2.1, hk_.1.1.2.2⟩)); have n1_ := Aside0.mk (Kd.R_mono (ok' := fun k_ => some k_ ≠ (v413 : Value).ownBlock ∧ some k_ ≠ (v423 : Value).ownBlock ∧ some k_ ≠ (.slice Ao48 t426.length co48 : Value).ownBlock) (Kd.R_keptB ((Kd.R_apart' HO_8.out (Kd.R_typed HO_9.out) (by decide))) hkp (fun k_ hk_ hs_ => (hk_.2) hs_)) (fun k_ hk_ => ⟨hk_.1.1.1.1, hk_.1.1.1.2, hk_.1.1.2⟩)); have n2_ := Aside0.mk (Kd.R_reok rfl hy0 (fun k_ e_ => HO_9.out.1 k_ e_)); have n3_ := Aside0.mk (Kd.R_mono (ok' := fun k_ => some k_ ≠ (v413 : Value).ownBlock ∧ some k_ ≠ (.slice Ao26 t415.length co26 : Value).ownBlock ∧ some k_ ≠ (.slice Ao48 t426.length co48 : Value).ownBlock) (Kd.R_keptB ((Kd.R_apart' HO_10.out (Kd.R_typed HO_9.out) (by decide))) hkp (fun k_ hk_ hs_ => (hk_.2) hs_)) (fun k_ hk_ => ⟨hk_.1.1.1, hk_.1.1.2.1, hk_.1.1.2.2⟩)); have n4_ := Aside0.mk (Kd.R_mono (ok' := fun k_ => some k_ ≠ (v413 : Value).ownBlock ∧ some k_ ≠ (.slice Ao26 t415.length co26 : Value).ownBlock ∧ some k_ ≠ (v423 : Value).ownBlock) (Kd.R_keptB ((Kd.R_apart' HO428.out (Kd.R_typed HO_9.out) (by decide))) hkp (fun k_ hk_ hs_ => (hk_.2) hs_)) (fun k_ hk_ => ⟨hk_.1.1.1, hk_.1.1.2.1, hk_.1.1.2.2⟩)); have n5_ := Aside0.mk (Kd.R_mono (ok' := fun k_ => some k_ ≠ (.slice Ao27 t418.length co27 : Value).ownBlock) (Kd.R_keptB (HO432.out) hkp (fun k_ hk_ hs_ => (hk_) hs_)) (fun k_ hk_ => hk_.1)); have n6_ := Aside0.mk (hb); clear HO_6; clear HO_8; clear HO_9; clear HO_10; clear HO428; clear HO432; clear HB; have HO_6 := n0_; have HO_8 := n1_; have HO_9 := n2_; have HO_10 := n3_; have HO428 := n4_; have HO432 := n5_; have HB := n6_; clear n0_ n1_ n2_ n3_ n4_ n5_ n6_; (try clear hb); (try clear hkp); (try clear hy0)))
                (try simp only [Act.put, List.setIfInBounds_toArray, List.set_cons_zero, List.set_cons_succ])
                go_cut [82] (fun v82 wc => ∃ (kq : Nat) (x82_45 : Bool), v82 = .bool x82_45 ∧ Aside0 (laws_FnExactApplyEdits.j1 kq l0 l1 t411 t412 t421 x82_45 = some true) ∧ Aside0 (kq ≤ kj15) ∧ Aside0 (Kd.R k51 51 wc w.heap.size (fun k_ => some k_ ≠ (v423 : Value).ownBlock) v413 t411) ∧ Aside0 (Kd.R k51 51 wc w.heap.size (fun k_ => some k_ ≠ (v413 : Value).ownBlock) v423 t421) ∧ Aside0 (Below w.heap.size w wc))
                case first =>
                  have H := HC46.out
                  clear HC46
                  by_cases c55 : t436 < 0
                  · rw [if_pos c55] at H
                    have c55b0 : decide (t436 < 0) = true := decide_eq_true c55
                    clear c55
                    (first | rw [c55b0] | (simp only [i64_w, i32_w]; rw [c55b0]) | skip)
                    have H' := Aside0.mk H
                    clear H
                    go_wp2
                    go_meet
                    case rel => exact ⟨_, (true), vE, H', ⟨by have := HJ15.out; first | omega | exact Nat.le_refl _⟩, ⟨by (with_reducible repeat (first | apply Kd.R_alloc | apply Kd.R_drewN | apply Kd.R_drew)); exact Kd.R_mono HO_6.out (fun _ hk => hk.2.1)⟩, ⟨by (with_reducible repeat (first | apply Kd.R_alloc | apply Kd.R_drewN | apply Kd.R_drew)); exact Kd.R_mono HO_10.out (fun _ hk => hk.1)⟩, ⟨bW⟩⟩
                  · rw [if_neg c55] at H
                    have c55b0 : decide (t436 < 0) = false := decide_eq_false c55
                    clear c55
                    (first | rw [c55b0] | (simp only [i64_w, i32_w]; rw [c55b0]) | skip)
                    replace H := Option.bind_eq_some_iff.mp H
                    obtain ⟨t438, A560, H⟩ := H
                    replace H : (if t438 = true then (laws_FnExactApplyEdits.j1 kj15 l0 l1 t411 t412 t421 (t422 != t412)) else (laws_FnExactApplyEdits.j1 kj15 l0 l1 t411 t412 t421 true)) = some true := H
                    have A56 := Aside0.mk A560
                    clear A560
                    by_cases c57 : t438 = true
                    · subst c57
                      have H1 : (laws_FnExactApplyEdits.j1 kj15 l0 l1 t411 t412 t421 (t422 != t412)) = some true := by rw [if_pos rfl] at H; exact H
                      clear H
                      have H := H1
                      clear H1
                      have H' := Aside0.mk H
                      clear H
                      obtain ⟨Ao58, co58, eo58⟩ := Kd.R_slice HO_10.out
                      subst eo58
                      obtain ⟨Ao59, co59, eo59⟩ := Kd.R_slice HO_6.out
                      subst eo59
                      go_wp2_with (first | (go_at_call 19; (with_reducible refine (laws_eqEntryS.calls kj15 _ _ t421 _ _ t411 true _ ?side1 ?side2 ?side3 ?side4 A56.out).mono ?_); (case side1 => repeat (first | exact (Kd.R_reads' HO_10.out).2.2 | (with_reducible refine Kd.C_alloc ?_ _) | (with_reducible refine Kd.C_drewN ?_ _) | (with_reducible refine Kd.C_drew ?_))); (case side2 => exact (Kd.R_reads' HO_10.out).2.1); (case side3 => repeat (first | exact (Kd.R_reads' HO_6.out).2.2 | (with_reducible refine Kd.C_alloc ?_ _) | (with_reducible refine Kd.C_drewN ?_ _) | (with_reducible refine Kd.C_drew ?_))); (case side4 => exact (Kd.R_reads' HO_6.out).2.1); rintro e w60 ⟨rfl, hb⟩; have n0_ := Aside0.mk (Kd.R_below (pR HO_6) hb); have n1_ := Aside0.mk (Kd.R_below (pR HO_8) hb); have n2_ := Aside0.mk (Kd.R_below (pR HO_9) hb); have n3_ := Aside0.mk (Kd.R_below (pR HO_10) hb); have n4_ := Aside0.mk (Kd.R_below (pR HO428) hb); have n5_ := Aside0.mk (Kd.R_below (pR HO432) hb); have n6_ := Aside0.mk (below_step (w := w) bW hb); clear HO_6; clear HO_8; clear HO_9; clear HO_10; clear HO428; clear HO432; clear HB; have HO_6 := n0_; have HO_8 := n1_; have HO_9 := n2_; have HO_10 := n3_; have HO428 := n4_; have HO432 := n5_; have HB := n6_; clear n0_ n1_ n2_ n3_ n4_ n5_ n6_; (try clear hb); (try clear hb2); (try clear hk); (try clear hi)))
                      go_meet
                      case rel => exact ⟨_, ((t422 != t412)), vE, H', ⟨by have := HJ15.out; first | omega | exact Nat.le_refl _⟩, ⟨by (with_reducible repeat (first | apply Kd.R_alloc | apply Kd.R_drewN | apply Kd.R_drew)); exact Kd.R_mono HO_6.out (fun _ hk => hk.2.1)⟩, ⟨by (with_reducible repeat (first | apply Kd.R_alloc | apply Kd.R_drewN | apply Kd.R_drew)); exact Kd.R_mono HO_10.out (fun _ hk => hk.1)⟩, ⟨bW⟩⟩
                    · replace c57 := Bool.eq_false_iff.mpr c57
                      subst c57
                      have H1 : (laws_FnExactApplyEdits.j1 kj15 l0 l1 t411 t412 t421 true) = some true := by rw [if_neg (show ¬ (false = true) by decide)] at H; exact H
                      clear H
                      have H := H1
                      clear H1
                      have H' := Aside0.mk H
                      clear H
                      obtain ⟨Ao61, co61, eo61⟩ := Kd.R_slice HO_10.out
                      subst eo61
                      obtain ⟨Ao62, co62, eo62⟩ := Kd.R_slice HO_6.out
                      subst eo62
                      go_wp2_with (first | (go_at_call 19; (with_reducible refine (laws_eqEntryS.calls kj15 _ _ t421 _ _ t411 false _ ?side1 ?side2 ?side3 ?side4 A56.out).mono ?_); (case side1 => repeat (first | exact (Kd.R_reads' HO_10.out).2.2 | (with_reducible refine Kd.C_alloc ?_ _) | (with_reducible refine Kd.C_drewN ?_ _) | (with_reducible refine Kd.C_drew ?_))); (case side2 => exact (Kd.R_reads' HO_10.out).2.1); (case side3 => repeat (first | exact (Kd.R_reads' HO_6.out).2.2 | (with_reducible refine Kd.C_alloc ?_ _) | (with_reducible refine Kd.C_drewN ?_ _) | (with_reducible refine Kd.C_drew ?_))); (case side4 => exact (Kd.R_reads' HO_6.out).2.1); rintro e w63 ⟨rfl, hb⟩; have n0_ := Aside0.mk (Kd.R_below (pR HO_6) hb); have n1_ := Aside0.mk (Kd.R_below (pR HO_8) hb); have n2_ := Aside0.mk (Kd.R_below (pR HO_9) hb); have n3_ := Aside0.mk (Kd.R_below (pR HO_10) hb); have n4_ := Aside0.mk (Kd.R_below (pR HO428) hb); have n5_ := Aside0.mk (Kd.R_below (pR HO432) hb); have n6_ := Aside0.mk (below_step (w := w) bW hb); clear HO_6; clear HO_8; clear HO_9; clear HO_10; clear HO428; clear HO432; clear HB; have HO_6 := n0_; have HO_8 := n1_; have HO_9 := n2_; have HO_10 := n3_; have HO428 := n4_; have HO432 := n5_; have HB := n6_; clear n0_ n1_ n2_ n3_ n4_ n5_ n6_; (try clear hb); (try clear hb2); (try clear hk); (try clear hi)))
                      go_meet
                      case rel => exact ⟨_, (true), vE, H', ⟨by have := HJ15.out; first | omega | exact Nat.le_refl _⟩, ⟨by (with_reducible repeat (first | apply Kd.R_alloc | apply Kd.R_drewN | apply Kd.R_drew)); exact Kd.R_mono HO_6.out (fun _ hk => hk.2.1)⟩, ⟨by (with_reducible repeat (first | apply Kd.R_alloc | apply Kd.R_drewN | apply Kd.R_drew)); exact Kd.R_mono HO_10.out (fun _ hk => hk.1)⟩, ⟨bW⟩⟩
                case rest =>
                  clear HC46
                  try clear c1
                  try clear c2
                  try clear p2
                  try clear c3
                  try clear c4
                  try clear c4b0
                  try clear c5
                  try clear c7
                  try clear c7b0
                  try clear c15
                  try clear c17
                  try clear c19
                  try clear c20
                  try clear c24
                  try clear c25
                  try clear c26
                  try clear c27
                  try clear c28
                  try clear c29
                  try clear c30
                  try clear c37
                  try clear c40
                  try clear c43
                  try clear c55
                  try clear c55b0
                  try clear c57
                  try clear p2
                  obtain ⟨kq, x82_45, rfl, HA, HJ45, HO_6, HO_10, HB⟩ := hcut
                  cases kq with
                  | zero => exact absurd HA.out (by simp [laws_FnExactApplyEdits.j1])
                  | succ kj45 =>
                    have H := HA.out
                    clear HA
                    simp only [laws_FnExactApplyEdits.j1] at H
                    by_cases c64 : x82_45 = true
                    · subst c64
                      have H1 : (some false) = some true := by rw [if_pos rfl] at H; exact H
                      exact absurd H1 (by simp)
                    · replace c64 := Bool.eq_false_iff.mpr c64
                      subst c64
                      have H1 : ((laws_markEntryS.f kj45 t421 1).bind fun bt439 => ((laws_heldEntryS.f kj45 bt439.2 1).bind fun t441 => (if t441 < 0 then (some false) else (if t441 = bt439.1 then ((laws_toEntryS.f kj45 l0).bind fun t442 => ((laws_toEditS.f kj45 l1).bind fun t445 => ((impl_ApplyEdits.f kj45 t442 t445).bind fun bt448 => ((laws_eqEntryS.f kj45 bt448.1 t411).bind fun t452 => (if t452 = true then (laws_FnExactApplyEdits.j2 kj45 bt439.2 bt439.1 (bt448.2 != t412)) else (laws_FnExactApplyEdits.j2 kj45 bt439.2 bt439.1 true)))))) else (some false))))) = some true := by rw [if_neg (show ¬ (false = true) by decide)] at H; exact H
                      clear H
                      have H := H1
                      clear H1
                      replace H := Option.bind_eq_some_iff.mp H
                      obtain ⟨⟨t439, t440⟩, A650, H⟩ := H
                      replace H : ((laws_heldEntryS.f kj45 t440 1).bind fun t441 => (if t441 < 0 then (some false) else (if t441 = t439 then ((laws_toEntryS.f kj45 l0).bind fun t442 => ((laws_toEditS.f kj45 l1).bind fun t445 => ((impl_ApplyEdits.f kj45 t442 t445).bind fun bt448 => ((laws_eqEntryS.f kj45 bt448.1 t411).bind fun t452 => (if t452 = true then (laws_FnExactApplyEdits.j2 kj45 t440 t439 (bt448.2 != t412)) else (laws_FnExactApplyEdits.j2 kj45 t440 t439 true)))))) else (some false)))) = some true := H
                      have A65 := Aside0.mk A650
                      clear A650
                      replace H := Option.bind_eq_some_iff.mp H
                      obtain ⟨t441, A660, H⟩ := H
                      replace H : (if t441 < 0 then (some false) else (if t441 = t439 then ((laws_toEntryS.f kj45 l0).bind fun t442 => ((laws_toEditS.f kj45 l1).bind fun t445 => ((impl_ApplyEdits.f kj45 t442 t445).bind fun bt448 => ((laws_eqEntryS.f kj45 bt448.1 t411).bind fun t452 => (if t452 = true then (laws_FnExactApplyEdits.j2 kj45 t440 t439 (bt448.2 != t412)) else (laws_FnExactApplyEdits.j2 kj45 t440 t439 true)))))) else (some false))) = some true := H
                      have A66 := Aside0.mk A660
                      clear A660
                      by_cases c67 : t441 < 0
                      · rw [if_pos c67] at H
                        exact absurd H (by simp)
                      · rw [if_neg c67] at H
                        have c67b0 : decide (t441 < 0) = false := decide_eq_false c67
                        clear c67
                        by_cases c71 : t441 = t439
                        · rw [if_pos c71] at H
                          have c71b0 : (t441 == t439) = true := beq_iff_eq.mpr c71
                          have c71b1 : (t441 != t439) = false := bne_eq_false_iff_eq.mpr c71
                          clear c71
                          replace H := Option.bind_eq_some_iff.mp H
                          obtain ⟨t442, A720, H⟩ := H
                          replace H : ((laws_toEditS.f kj45 l1).bind fun t445 => ((impl_ApplyEdits.f kj45 t442 t445).bind fun bt448 => ((laws_eqEntryS.f kj45 bt448.1 t411).bind fun t452 => (if t452 = true then (laws_FnExactApplyEdits.j2 kj45 t440 t439 (bt448.2 != t412)) else (laws_FnExactApplyEdits.j2 kj45 t440 t439 true))))) = some true := H
                          have A72 := Aside0.mk A720
                          clear A720
                          replace H := Option.bind_eq_some_iff.mp H
                          obtain ⟨t445, A730, H⟩ := H
                          replace H : ((impl_ApplyEdits.f kj45 t442 t445).bind fun bt448 => ((laws_eqEntryS.f kj45 bt448.1 t411).bind fun t452 => (if t452 = true then (laws_FnExactApplyEdits.j2 kj45 t440 t439 (bt448.2 != t412)) else (laws_FnExactApplyEdits.j2 kj45 t440 t439 true)))) = some true := H
                          have A73 := Aside0.mk A730
                          clear A730
                          replace H := Option.bind_eq_some_iff.mp H
                          obtain ⟨⟨t448, t449⟩, A740, H⟩ := H
                          replace H : ((laws_eqEntryS.f kj45 t448 t411).bind fun t452 => (if t452 = true then (laws_FnExactApplyEdits.j2 kj45 t440 t439 (t449 != t412)) else (laws_FnExactApplyEdits.j2 kj45 t440 t439 true))) = some true := H
                          have A74 := Aside0.mk A740
                          clear A740
                          have HC75 := Aside0.mk H
                          clear H
                          obtain ⟨Ao76, co76, eo76⟩ := Kd.R_slice HO_10.out
                          subst eo76
                          go_upto_region 32 with (first | ((with_reducible refine gate_callee (f := 20) rfl ?_); refine goesL_ (some 85) rfl rfl Try.func20 (by kernel_rfl) rfl #[.slice Ao76 t421.length co76, .int .i64 1] rfl gA ?_; (with_reducible refine (laws_markEntryS.calls kj45 (fun k_ => some k_ = (.slice Ao76 t421.length co76 : Value).ownBlock) (.slice Ao76 t421.length co76) t421 1 t439 t440 w _ ?side1 ?side2 A65.out).mono ?_); (case side1 => repeat (first | (with_reducible first | exact HB.out | apply below_alloc | apply pw_below_drewN | apply below_drew1) | exact HB.out)); (case side2 => exact Kd.R_tight rfl HO_10.out); rintro e w77 ⟨rfl, hy0, hb, hkp⟩; refine ⟨_, rfl, ?_⟩; have n0_ := Aside0.mk (Kd.R_mono (ok' := fun k_ => some k_ ≠ (.slice Ao76 t421.length co76 : Value).ownBlock) (Kd.R_keptB (HO_6.out) hkp (fun k_ hk_ hs_ => (hk_) hs_)) (fun k_ hk_ => hk_.1)); have n1_ := Aside0.mk (Kd.R_reok rfl hy0 (fun k_ e_ => HO_10.out.1 k_ e_)); have n2_ := Aside0.mk (hb); clear HO_6; clear HO_10; clear HB; have HO_6 := n0_; have HO_10 := n1_; have HB := n2_; clear n0_ n1_ n2_; (try clear hb); (try clear hkp); (try clear hy0)) | ((with_reducible refine gate_callee (f := 21) rfl ?_); refine goesL_ (some 88) rfl rfl Try.func21 (by kernel_rfl) rfl #[.slice Ao76 t440.length co76, .int .i64 1] rfl (by (try simp only [List.map_toArray, List.map_cons, List.map_nil]); first | done | (rw [show t440.length = t421.length from (Kd.R_reads' HO_10.out).1.symm] <;> rfl) | rfl | (simp only [List.length_drop, List.length_take]; rfl)) ?_; (with_reducible refine (laws_heldEntryS.calls kj45 _ _ t440 1 t441 _ ?side1 ?side2 A66.out).mono ?_); (case side1 => repeat (first | exact (Kd.R_reads' HO_10.out).2.2 | (with_reducible refine Kd.C_alloc ?_ _) | (with_reducible refine Kd.C_drewN ?_ _) | (with_reducible refine Kd.C_drew ?_))); (case side2 => rw [show t440.length = t421.length from (Kd.R_reads' HO_10.out).1.symm]; exact (Kd.R_reads' HO_10.out).2.1); rintro e w78 ⟨rfl, hb⟩; refine ⟨_, rfl, ?_⟩; have n0_ := Aside0.mk (Kd.R_below (pR HO_6) hb); have n1_ := Aside0.mk (Kd.R_below (pR HO_10) hb); have n2_ := Aside0.mk (below_step (w := w) bW hb); clear HO_6; clear HO_10; clear HB; have HO_6 := n0_; have HO_10 := n1_; have HB := n2_; clear n0_ n1_ n2_; (try clear hb); (try clear hb2); (try clear hk); (try clear hi)) | ((with_reducible refine gate_callee (f := 17) rfl ?_); refine goesL_ (some 96) rfl rfl Try.func17 (by kernel_rfl) rfl #[.slice A0 l0.length c0] rfl gA ?_; (with_reducible refine (laws_toEntryS.calls kj45 _ _ l0 t442 _ ?side1 ?side2 A72.out).mono ?_); (case side1 => exact cB HR0); (case side2 => exact HC0.out); rintro e w79 ⟨v443, rfl, ho0, hb⟩; refine ⟨_, rfl, ?_⟩; have n0_ := Aside0.mk (Kd.R_elder' (pR HO_6) (Kd.R_base ho0) hb); have n1_ := Aside0.mk (Kd.R_elder' (pR HO_10) (Kd.R_base ho0) hb); have n2_ := Aside0.mk (Kd.R_lower (Kd.R_new' (Kd.R_new' ho0 (Kd.R_lt (pR HO_6))) (Kd.R_lt (pR HO_10))) (below_size (w := w) bW)); have n3_ := Aside0.mk (below_step (w := w) bW hb); clear HO_6; clear HO_10; clear HB; have HO_6 := n0_; have HO_10 := n1_; have HO444 := n2_; have HB := n3_; clear n0_ n1_ n2_ n3_; (try clear hb); (try clear hb2); (try clear hk); (try clear hi); (try clear ho0)) | ((with_reducible refine gate_callee (f := 26) rfl ?_); refine goesL_ (some 98) rfl rfl Try.func26 (by kernel_rfl) rfl #[.slice A1 l1.length c1] rfl gA ?_; (with_reducible refine (laws_toEditS.calls kj45 _ _ l1 t445 _ ?side1 ?side2 A73.out).mono ?_); (case side1 => exact cB HR1); (case side2 => exact HC1.out); rintro e w80 ⟨v446, rfl, ho0, hb⟩; refine ⟨_, rfl, ?_⟩; have n0_ := Aside0.mk (Kd.R_below (pR HO_6) hb); have n1_ := Aside0.mk (Kd.R_below (pR HO_10) hb); have n2_ := Aside0.mk (Kd.R_below (pR HO444) hb); have n3_ := Aside0.mk (Kd.R_lower ho0 (below_size (w := w) bW)); have n4_ := Aside0.mk (below_step (w := w) bW hb); clear HO_6; clear HO_10; clear HO444; clear HB; have HO_6 := n0_; have HO_10 := n1_; have HO444 := n2_; have HO447 := n3_; have HB := n4_; clear n0_ n1_ n2_ n3_ n4_; (try clear hb); (try clear hb2); (try clear hk); (try clear hi); (try clear ho0); obtain ⟨Ao81, co81, eo81⟩ := Kd.R_slice HO444.out; subst eo81; obtain ⟨Ao82, co82, eo82⟩ := Kd.R_slice HO447.out; subst eo82) | ((with_reducible refine gate_callee (f := 27) rfl ?_); refine goesL_ (some 99) rfl rfl Try.func27 (by kernel_rfl) rfl #[.slice Ao81 t442.length co81, .slice Ao82 t445.length co82] rfl gA ?_; (with_reducible refine (impl_ApplyEdits.calls kj45 _ _ t442 _ _ t445 t448 t449 _ ?side1 ?side2 ?side3 ?side4 A74.out).mono ?_); (case side1 => repeat (first | exact (Kd.R_reads' HO444.out).2.2 | (with_reducible refine Kd.C_alloc ?_ _) | (with_reducible refine Kd.C_drewN ?_ _) | (with_reducible refine Kd.C_drew ?_))); (case side2 => exact (Kd.R_reads' HO444.out).2.1); (case side3 => repeat (first | exact (Kd.R_reads' HO447.out).2.2 | (with_reducible refine Kd.C_alloc ?_ _) | (with_reducible refine Kd.C_drewN ?_ _) | (with_reducible refine Kd.C_drew ?_))); (case side4 => exact (Kd.R_reads' HO447.out).2.1); rintro e w83 ⟨v450, rfl, ho0, hb⟩; refine ⟨_, rfl, ?_⟩; have n0_ := Aside0.mk (Kd.R_elder' (pR HO_6) (Kd.R_base ho0) hb); have n1_ := Aside0.mk (Kd.R_elder' (pR HO_10) (Kd.R_base ho0) hb); have n2_ := Aside0.mk (Kd.R_elder' (pR HO444) (Kd.R_base ho0) hb); have n3_ := Aside0.mk (Kd.R_below (pR HO447) hb); have n4_ := Aside0.mk (Kd.R_lower (Kd.R_new' (Kd.R_new' (Kd.R_new' ho0 (Kd.R_lt (pR HO_6))) (Kd.R_lt (pR HO_10))) (Kd.R_lt (pR HO444))) (below_size (w := w) bW)); have n5_ := Aside0.mk (below_step (w := w) bW hb); clear HO_6; clear HO_10; clear HO444; clear HO447; clear HB; have HO_6 := n0_; have HO_10 := n1_; have HO444 := n2_; have HO447 := n3_; have HO451 := n4_; have HB := n5_; clear n0_ n1_ n2_ n3_ n4_ n5_; (try clear hb); (try clear hb2); (try clear hk); (try clear hi); (try clear ho0)))
                          (try simp only [Act.put, List.setIfInBounds_toArray, List.set_cons_zero, List.set_cons_succ])
                          go_cut [110] (fun v110 wc => ∃ (kq : Nat) (x110_74 : Bool), v110 = .bool x110_74 ∧ Aside0 (laws_FnExactApplyEdits.j2 kq t440 t439 x110_74 = some true) ∧ Aside0 (kq ≤ kj45) ∧ Aside0 (Kd.R k51 51 wc w.heap.size (fun _ => True) (.slice Ao76 t421.length co76) t440) ∧ Aside0 (Below w.heap.size w wc))
                          case first =>
                            have H := HC75.out
                            clear HC75
                            replace H := Option.bind_eq_some_iff.mp H
                            obtain ⟨t452, A840, H⟩ := H
                            replace H : (if t452 = true then (laws_FnExactApplyEdits.j2 kj45 t440 t439 (t449 != t412)) else (laws_FnExactApplyEdits.j2 kj45 t440 t439 true)) = some true := H
                            have A84 := Aside0.mk A840
                            clear A840
                            by_cases c85 : t452 = true
                            · subst c85
                              have H1 : (laws_FnExactApplyEdits.j2 kj45 t440 t439 (t449 != t412)) = some true := by rw [if_pos rfl] at H; exact H
                              clear H
                              have H := H1
                              clear H1
                              have H' := Aside0.mk H
                              clear H
                              obtain ⟨Ao86, co86, eo86⟩ := Kd.R_slice HO451.out
                              subst eo86
                              obtain ⟨Ao87, co87, eo87⟩ := Kd.R_slice HO_6.out
                              subst eo87
                              go_wp2_with (first | ((with_reducible refine gate_callee (f := 19) rfl ?_); refine goesL_ (some 104) rfl rfl Try.func19 (by kernel_rfl) rfl #[.slice Ao86 t448.length co86, .slice Ao87 t411.length co87] rfl gA ?_; (with_reducible refine (laws_eqEntryS.calls kj45 _ _ t448 _ _ t411 true _ ?side1 ?side2 ?side3 ?side4 A84.out).mono ?_); (case side1 => repeat (first | exact (Kd.R_reads' HO451.out).2.2 | (with_reducible refine Kd.C_alloc ?_ _) | (with_reducible refine Kd.C_drewN ?_ _) | (with_reducible refine Kd.C_drew ?_))); (case side2 => exact (Kd.R_reads' HO451.out).2.1); (case side3 => repeat (first | exact (Kd.R_reads' HO_6.out).2.2 | (with_reducible refine Kd.C_alloc ?_ _) | (with_reducible refine Kd.C_drewN ?_ _) | (with_reducible refine Kd.C_drew ?_))); (case side4 => exact (Kd.R_reads' HO_6.out).2.1); rintro e w88 ⟨rfl, hb⟩; refine ⟨_, rfl, ?_⟩; have n0_ := Aside0.mk (Kd.R_below (pR HO_6) hb); have n1_ := Aside0.mk (Kd.R_below (pR HO_10) hb); have n2_ := Aside0.mk (Kd.R_below (pR HO444) hb); have n3_ := Aside0.mk (Kd.R_below (pR HO447) hb); have n4_ := Aside0.mk (Kd.R_below (pR HO451) hb); have n5_ := Aside0.mk (below_step (w := w) bW hb); clear HO_6; clear HO_10; clear HO444; clear HO447; clear HO451; clear HB; have HO_6 := n0_; have HO_10 := n1_; have HO444 := n2_; have HO447 := n3_; have HO451 := n4_; have HB := n5_; clear n0_ n1_ n2_ n3_ n4_ n5_; (try clear hb); (try clear hb2); (try clear hk); (try clear hi)))
                              go_meet
                              case rel => exact ⟨_, ((t449 != t412)), vE, H', ⟨by have := HJ15.out; have := HJ45.out; first | omega | exact Nat.le_refl _⟩, ⟨by (with_reducible repeat (first | apply Kd.R_alloc | apply Kd.R_drewN | apply Kd.R_drew)); exact Kd.R_mono HO_10.out (fun _ hk => trivial)⟩, ⟨bW⟩⟩
                            · replace c85 := Bool.eq_false_iff.mpr c85
                              subst c85
                              have H1 : (laws_FnExactApplyEdits.j2 kj45 t440 t439 true) = some true := by rw [if_neg (show ¬ (false = true) by decide)] at H; exact H
                              clear H
                              have H := H1
                              clear H1
                              have H' := Aside0.mk H
                              clear H
                              obtain ⟨Ao89, co89, eo89⟩ := Kd.R_slice HO451.out
                              subst eo89
                              obtain ⟨Ao90, co90, eo90⟩ := Kd.R_slice HO_6.out
                              subst eo90
                              go_wp2_with (first | ((with_reducible refine gate_callee (f := 19) rfl ?_); refine goesL_ (some 104) rfl rfl Try.func19 (by kernel_rfl) rfl #[.slice Ao89 t448.length co89, .slice Ao90 t411.length co90] rfl gA ?_; (with_reducible refine (laws_eqEntryS.calls kj45 _ _ t448 _ _ t411 false _ ?side1 ?side2 ?side3 ?side4 A84.out).mono ?_); (case side1 => repeat (first | exact (Kd.R_reads' HO451.out).2.2 | (with_reducible refine Kd.C_alloc ?_ _) | (with_reducible refine Kd.C_drewN ?_ _) | (with_reducible refine Kd.C_drew ?_))); (case side2 => exact (Kd.R_reads' HO451.out).2.1); (case side3 => repeat (first | exact (Kd.R_reads' HO_6.out).2.2 | (with_reducible refine Kd.C_alloc ?_ _) | (with_reducible refine Kd.C_drewN ?_ _) | (with_reducible refine Kd.C_drew ?_))); (case side4 => exact (Kd.R_reads' HO_6.out).2.1); rintro e w91 ⟨rfl, hb⟩; refine ⟨_, rfl, ?_⟩; have n0_ := Aside0.mk (Kd.R_below (pR HO_6) hb); have n1_ := Aside0.mk (Kd.R_below (pR HO_10) hb); have n2_ := Aside0.mk (Kd.R_below (pR HO444) hb); have n3_ := Aside0.mk (Kd.R_below (pR HO447) hb); have n4_ := Aside0.mk (Kd.R_below (pR HO451) hb); have n5_ := Aside0.mk (below_step (w := w) bW hb); clear HO_6; clear HO_10; clear HO444; clear HO447; clear HO451; clear HB; have HO_6 := n0_; have HO_10 := n1_; have HO444 := n2_; have HO447 := n3_; have HO451 := n4_; have HB := n5_; clear n0_ n1_ n2_ n3_ n4_ n5_; (try clear hb); (try clear hb2); (try clear hk); (try clear hi)))
                              go_meet
                              case rel => exact ⟨_, (true), vE, H', ⟨by have := HJ15.out; have := HJ45.out; first | omega | exact Nat.le_refl _⟩, ⟨by (with_reducible repeat (first | apply Kd.R_alloc | apply Kd.R_drewN | apply Kd.R_drew)); exact Kd.R_mono HO_10.out (fun _ hk => trivial)⟩, ⟨bW⟩⟩
                          case rest =>
                            clear HC75
                            try clear c1
                            try clear c2
                            try clear p2
                            try clear c3
                            try clear c4
                            try clear c4b0
                            try clear c5
                            try clear c6
                            try clear c7
                            try clear c7b0
                            try clear c8
                            try clear c15
                            try clear c17
                            try clear c19
                            try clear c20
                            try clear c21
                            try clear c24
                            try clear c25
                            try clear c26
                            try clear c27
                            try clear c28
                            try clear c29
                            try clear c30
                            try clear c37
                            try clear c40
                            try clear c43
                            try clear c55
                            try clear c55b0
                            try clear c57
                            try clear c64
                            try clear c67
                            try clear c67b0
                            try clear c71
                            try clear c71b0
                            try clear c71b1
                            try clear c85
                            try clear p2
                            obtain ⟨kq, x110_74, rfl, HA, HJ74, HO_10, HB⟩ := hcut
                            have hl10_74 := (Kd.R_reads' HO_10.out).1
                            rw [hl10_74] at HO_10
                            (try simp only [hl10_74])
                            cases kq with
                            | zero => exact absurd HA.out (by simp [laws_FnExactApplyEdits.j2])
                            | succ kj74 =>
                              have H := HA.out
                              clear HA
                              simp only [laws_FnExactApplyEdits.j2] at H
                              by_cases c92 : x110_74 = true
                              · subst c92
                                have H1 : (some false) = some true := by rw [if_pos rfl] at H; exact H
                                exact absurd H1 (by simp)
                              · replace c92 := Bool.eq_false_iff.mpr c92
                                subst c92
                                have H1 : ((laws_heldEntryS.f kj74 t440 1).bind fun t453 => (if t453 < 0 then (some false) else (if t453 = t439 then (some true) else (some false)))) = some true := by rw [if_neg (show ¬ (false = true) by decide)] at H; exact H
                                clear H
                                have H := H1
                                clear H1
                                replace H := Option.bind_eq_some_iff.mp H
                                obtain ⟨t453, A930, H⟩ := H
                                replace H : (if t453 < 0 then (some false) else (if t453 = t439 then (some true) else (some false))) = some true := H
                                have A93 := Aside0.mk A930
                                clear A930
                                by_cases c94 : t453 < 0
                                · rw [if_pos c94] at H
                                  exact absurd H (by simp)
                                · rw [if_neg c94] at H
                                  have c94b0 : decide (t453 < 0) = false := decide_eq_false c94
                                  clear c94
                                  by_cases c96 : t453 = t439
                                  · rw [if_pos c96] at H
                                    have c96b0 : (t453 == t439) = true := beq_iff_eq.mpr c96
                                    have c96b1 : (t453 != t439) = false := bne_eq_false_iff_eq.mpr c96
                                    clear c96
                                    clear H
                                    go_wp2_with (first | ((with_reducible refine gate_callee (f := 21) rfl ?_); refine goesL_ (some 113) rfl rfl Try.func21 (by kernel_rfl) rfl #[.slice Ao76 t440.length co76, .int .i64 1] rfl gA ?_; (with_reducible refine (laws_heldEntryS.calls kj74 _ _ t440 1 t453 _ ?side1 ?side2 A93.out).mono ?_); (case side1 => repeat (first | exact (Kd.R_reads' HO_10.out).2.2 | (with_reducible refine Kd.C_alloc ?_ _) | (with_reducible refine Kd.C_drewN ?_ _) | (with_reducible refine Kd.C_drew ?_))); (case side2 => exact (Kd.R_reads' HO_10.out).2.1); rintro e w97 ⟨rfl, hb⟩; refine ⟨_, rfl, ?_⟩; have n0_ := Aside0.mk (Kd.R_below (pR HO_10) hb); have n1_ := Aside0.mk (below_step (w := w) bW hb); clear HO_10; clear HB; have HO_10 := n0_; have HB := n1_; clear n0_ n1_; (try clear hb); (try clear hb2); (try clear hk); (try clear hi)))
                                    go_ret
                                    exact ⟨rE, bW⟩
                                  · rw [if_neg c96] at H
                                    exact absurd H (by simp)
                        · rw [if_neg c71] at H
                          exact absurd H (by simp)
              · replace c43 := Bool.eq_false_iff.mpr c43
                subst c43
                have H1 : (some false) = some true := by rw [if_neg (show ¬ (false = true) by decide)] at H; exact H
                exact absurd H1 (by simp)
            · replace c40 := Bool.eq_false_iff.mpr c40
              subst c40
              have H1 : (some false) = some true := by rw [if_neg (show ¬ (false = true) by decide)] at H; exact H
              exact absurd H1 (by simp)
end Go.Proofs.Ytcpljigliklgcaa.Q
end

section
namespace Go.Proofs.Ytcpljigliklgcaa.Q
open Go.RowKit Go.Proofs.YtcpljigliklgcaaW.PrintWords Go.Proofs.YtcpljigliklgcaaW.PrintLast Go.Proofs.YtcpljigliklgcaaW.PrintMore
attribute [local go_sem] max2_int min2_int max_two min_two max_three min_three max_four min_four   -- for this text's walks alone
set_option linter.unusedVariables false
set_option linter.unusedSimpArgs false
attribute [local go_sem] bin_leq bin_gtr bin_geq
def Opens {α : Type} (P : Program) (d : Kd α) (t : TypeId) (G : α → Prop) : Prop :=
  P.cellsOf t = d.sz ∧ ∀ {H : Type} (enc : TypeId × Value → H) (w : World) (base : Nat) (spare : Nat → Bool) (held : Bool) (fuel : Nat) (cs : List Value) (x : DataW H × List MemPlace),
    DataW.trod enc P w base spare held fuel t cs = some x → ∃ v, d.K w v cs ∧ G v
theorem add_twice (a : Addr) (m i : Nat) : (a.add m).add i = a.add (m + i) := by
  unfold Addr.add
  by_cases h1 : m = 0 <;> by_cases h2 : i = 0 <;> simp_all [Nat.add_assoc]
theorem opens_int {P : Program} {t : TypeId} {k : IntKind} (ht : P.underlying t = some (.int k)) (hc : P.cellsOf t = 1) : Opens P (Kd.int k) t (fun n => (Lit.int k n).wf = true) := by
  refine ⟨hc, fun enc w base spare held fuel cs x h => ?_⟩
  cases fuel with
  | zero => simp [DataW.trod] at h
  | succ n =>
    unfold DataW.trod at h
    rw [ht] at h
    split at h <;> simp_all
    obtain ⟨⟨rfl, h1⟩, _⟩ := h
    exact ⟨_, rfl, h1⟩
theorem opens_bool {P : Program} {t : TypeId} (ht : P.underlying t = some .bool) (hc : P.cellsOf t = 1) : Opens P Kd.bool t (fun _ => True) := by
  refine ⟨hc, fun enc w base spare held fuel cs x h => ?_⟩
  cases fuel with
  | zero => simp [DataW.trod] at h
  | succ n =>
    unfold DataW.trod at h
    rw [ht] at h
    split at h <;> simp_all
    rename_i b
    cases b
    · exact .inl rfl
    · exact .inr rfl
theorem opens_string {P : Program} {t : TypeId} (ht : P.underlying t = some .string) (hc : P.cellsOf t = 1) : Opens P Kd.string t (fun s => s.size ≤ 9223372036854775807) := by
  refine ⟨hc, fun enc w base spare held fuel cs x h => ?_⟩
  cases fuel with
  | zero => simp [DataW.trod] at h
  | succ n =>
    unfold DataW.trod at h
    rw [ht] at h
    split at h <;> simp_all
    exact ⟨_, rfl, h.1⟩
theorem list_of {α : Type} {Q : Nat → α → Prop} : ∀ n, (∀ i, i < n → ∃ v, Q i v) → ∃ l : List α, l.length = n ∧ ∀ i v, l[i]? = some v → Q i v
  | 0, _ => ⟨[], rfl, fun i v h => by simp at h⟩
  | n + 1, h => by
    obtain ⟨l, hl, hq⟩ := list_of n (fun i hi => h i (by omega))
    obtain ⟨v, hv⟩ := h n (by omega)
    refine ⟨l ++ [v], by simp [hl], fun i u hu => ?_⟩
    by_cases hi : i < l.length
    · rw [List.getElem?_append_left hi] at hu
      exact hq i u hu
    · have hi2 : i = l.length := by
        have := (List.getElem?_eq_some_iff.1 hu).1
        rw [List.length_append, List.length_singleton] at this
        omega
      subst hi2
      have hu' : v = u := by simpa using hu
      subst hu'
      rw [hl]
      exact hv
theorem opens_slice {α : Type} {P : Program} {d : Kd α} {t e : TypeId} {G : α → Prop} (ht : P.underlying t = some (.slice e)) (hc : P.cellsOf t = 1) (O : Opens P d e G) :
    Opens P (Kd.slice e d) t (fun l => l.length ≤ 9223372036854775807 ∧ ∀ x, x ∈ l → G x) := by
  refine ⟨hc, fun enc w base spare held fuel cs x h => ?_⟩
  rcases DataW.trod_slice ht h with ⟨rfl, _⟩ | ⟨a, len, cap, elems, rest, n, _, rfl, _, hb, hl, hm, hlen, hel, _, _⟩
  · exact ⟨[], ⟨none, 0, rfl, Nat.le_refl _, Kd.C_nil d w⟩, by simp, fun x hx => by simp at hx⟩
  · have each : ∀ i, i < len → ∃ v : α, (∃ c, c.length = d.sz ∧ d.K w v c ∧ ∀ j u, c[j]? = some u → w.cell? (a.add (i * d.sz + j)) = some u) ∧ G v := by
      intro i hi
      have h1 := hel i hi
      have h2 : elems[i]? = some (elems[i]'(by omega)) := List.getElem?_eq_getElem (by omega)
      rw [h2, Option.bind_eq_some_iff] at h1
      obtain ⟨c, hcc, htr⟩ := h1
      obtain ⟨v, hK, hG⟩ := O.2 enc w base spare held n c _ htr
      obtain ⟨_, hcl, hcells⟩ := World.cells?_some hcc
      refine ⟨v, ⟨c, d.K_len hK, hK, fun j u hu => ?_⟩, hG⟩
      have hj : j < c.length := (List.getElem?_eq_some_iff.1 hu).1
      have := hcells j (by omega)
      rw [hu, add_twice, O.1] at this
      exact this
    obtain ⟨l, hll, hq⟩ := list_of len each
    refine ⟨l, ⟨some a, cap, by rw [hll], by omega, hll ▸ ?_⟩, by unfold maxLen at hm; omega, fun x hx => ?_⟩
    · refine ⟨hll, by unfold maxLen at hm; omega, fun hp => ⟨a, rfl, fun j p hj => ?_⟩⟩
      obtain ⟨c, h1, h2, h3⟩ := (hq j p hj).1
      exact ⟨c, h1, h2, h3⟩
    · obtain ⟨i, hi, rfl⟩ := List.mem_iff_getElem.mp hx
      exact (hq i _ (List.getElem?_eq_getElem hi)).2
theorem open_row {α : Type} {P : Program} {d : Kd α} {t e : TypeId} {G : List α → Prop} (O : Opens P (Kd.slice e d) t G) {H : Type} {enc : TypeId × Value → H} {w : World} {base : Nat} {spare : Nat → Bool} {held : Bool} {a : Option Addr} {len cap : Nat} {x : DataW H} {ps : List MemPlace}
    (h : DataW.Trod enc P w base spare held t (.slice a len cap) x ps) : ∃ l, len = l.length ∧ l.length ≤ cap ∧ Kd.C d w a l.length l ∧ G l := by
  obtain ⟨fuel, hf⟩ := h
  obtain ⟨l, ⟨A, c, he, hl, hC⟩, hG⟩ := O.2 enc w base spare held fuel _ _ hf
  simp only [Value.cells] at he
  have he2 : Value.slice a len cap = Value.slice A l.length c := by simpa using he
  injection he2 with h1 h2 h3
  subst h1 h2 h3
  exact ⟨l, rfl, hl, hC, hG⟩
end Go.Proofs.Ytcpljigliklgcaa.Q
end

section
namespace Go.Proofs.Ytcpljigliklgcaa.Q
open Go.RowKit Go.Proofs.YtcpljigliklgcaaW.PrintWords Go.Proofs.YtcpljigliklgcaaW.PrintLast Go.Proofs.YtcpljigliklgcaaW.PrintMore
attribute [local go_sem] max2_int min2_int max_two min_two max_three min_three max_four min_four   -- for this text's walks alone
set_option linter.unusedVariables false
set_option linter.unusedSimpArgs false
attribute [local go_sem] bin_leq bin_gtr bin_geq
def good125 (x : S125) : Prop := (fun s => s.size ≤ 9223372036854775807) x.f0 ∧ (fun n => (Lit.int .i64 n).wf = true) x.f1
set_option maxRecDepth 100000 in
theorem opens_125 : Opens Try.prog k125 125 good125 := by
  refine ⟨by kernel_rfl, fun enc w base spare held fuel cs x h => ?_⟩
  obtain ⟨xs, n, _, _, hcl, hxl, hf⟩ := DataW.trod_struct Try.underlying125 h
  have hcl2 : cs.length = 2 := hcl.trans (by kernel_rfl)
  obtain ⟨c0, c1, rfl⟩ : ∃ c0 c1, cs = [c0, c1] := by
    match cs, hcl2 with
    | [c0, c1], _ => exact ⟨c0, c1, rfl⟩
  have h0 := hf 0 _ rfl
  rw [List.getElem?_eq_getElem (show 0 < xs.length by rw [hxl]; decide)] at h0
  obtain ⟨v0, K0, G0⟩ := (opens_string Try.underlying9 (by kernel_rfl)).2 enc w base spare held n [c0] _ ((show DataW.trod enc Try.prog w base spare held n 9 [c0] = _ from (by first | exact h0 | (rw [show Try.prog.cellsOf 9 = 1 by kernel_rfl] at h0; exact h0))))
  have h1 := hf 1 _ rfl
  rw [List.getElem?_eq_getElem (show 1 < xs.length by rw [hxl]; decide)] at h1
  obtain ⟨v1, K1, G1⟩ := (opens_int (k := .i64) Try.underlying3 (by kernel_rfl)).2 enc w base spare held n [c1] _ ((show DataW.trod enc Try.prog w base spare held n 3 [c1] = _ from (by first | exact h1 | (rw [show Try.prog.cellsOf 3 = 1 by kernel_rfl] at h1; exact h1))))
  exact ⟨⟨v0, v1⟩, ⟨[c0], [c1], rfl, K0, K1⟩, ⟨G0, G1⟩⟩
end Go.Proofs.Ytcpljigliklgcaa.Q
end

section
namespace Go.Proofs.Ytcpljigliklgcaa.Q
open Go.RowKit Go.Proofs.YtcpljigliklgcaaW.PrintWords Go.Proofs.YtcpljigliklgcaaW.PrintLast Go.Proofs.YtcpljigliklgcaaW.PrintMore
attribute [local go_sem] max2_int min2_int max_two min_two max_three min_three max_four min_four   -- for this text's walks alone
set_option linter.unusedVariables false
set_option linter.unusedSimpArgs false
attribute [local go_sem] bin_leq bin_gtr bin_geq
def good142 (x : S142) : Prop := (fun s => s.size ≤ 9223372036854775807) x.f0 ∧ (fun n => (Lit.int .i64 n).wf = true) x.f1 ∧ (fun _ => True) x.f2
set_option maxRecDepth 100000 in
theorem opens_142 : Opens Try.prog k142 142 good142 := by
  refine ⟨by kernel_rfl, fun enc w base spare held fuel cs x h => ?_⟩
  obtain ⟨xs, n, _, _, hcl, hxl, hf⟩ := DataW.trod_struct Try.underlying142 h
  have hcl2 : cs.length = 3 := hcl.trans (by kernel_rfl)
  obtain ⟨c0, c1, c2, rfl⟩ : ∃ c0 c1 c2, cs = [c0, c1, c2] := by
    match cs, hcl2 with
    | [c0, c1, c2], _ => exact ⟨c0, c1, c2, rfl⟩
  have h0 := hf 0 _ rfl
  rw [List.getElem?_eq_getElem (show 0 < xs.length by rw [hxl]; decide)] at h0
  obtain ⟨v0, K0, G0⟩ := (opens_string Try.underlying9 (by kernel_rfl)).2 enc w base spare held n [c0] _ ((show DataW.trod enc Try.prog w base spare held n 9 [c0] = _ from (by first | exact h0 | (rw [show Try.prog.cellsOf 9 = 1 by kernel_rfl] at h0; exact h0))))
  have h1 := hf 1 _ rfl
  rw [List.getElem?_eq_getElem (show 1 < xs.length by rw [hxl]; decide)] at h1
  obtain ⟨v1, K1, G1⟩ := (opens_int (k := .i64) Try.underlying3 (by kernel_rfl)).2 enc w base spare held n [c1] _ ((show DataW.trod enc Try.prog w base spare held n 3 [c1] = _ from (by first | exact h1 | (rw [show Try.prog.cellsOf 3 = 1 by kernel_rfl] at h1; exact h1))))
  have h2 := hf 2 _ rfl
  rw [List.getElem?_eq_getElem (show 2 < xs.length by rw [hxl]; decide)] at h2
  obtain ⟨v2, K2, G2⟩ := (opens_bool Try.underlying4 (by kernel_rfl)).2 enc w base spare held n [c2] _ ((show DataW.trod enc Try.prog w base spare held n 4 [c2] = _ from (by first | exact h2 | (rw [show Try.prog.cellsOf 4 = 1 by kernel_rfl] at h2; exact h2))))
  exact ⟨⟨v0, v1, v2⟩, ⟨[c0], [c1, c2], rfl, K0, ⟨[c1], [c2], rfl, K1, K2⟩⟩, ⟨G0, G1, G2⟩⟩
end Go.Proofs.Ytcpljigliklgcaa.Q
end

section
namespace Go.Proofs.Ytcpljigliklgcaa.Q
open Go.RowKit Go.Proofs.YtcpljigliklgcaaW.PrintWords Go.Proofs.YtcpljigliklgcaaW.PrintLast Go.Proofs.YtcpljigliklgcaaW.PrintMore
attribute [local go_sem] max2_int min2_int max_two min_two max_three min_three max_four min_four   -- for this text's walks alone
set_option linter.unusedVariables false
set_option linter.unusedSimpArgs false
attribute [local go_sem] bin_leq bin_gtr bin_geq
def laws_FnExactApplyEdits.Pure : Prop := ∀ (l0 : List (S125)) (l1 : List (S142)), (fun l => l.length ≤ 9223372036854775807 ∧ ∀ x, x ∈ l → good125 x) l0 → (fun l => l.length ≤ 9223372036854775807 ∧ ∀ x, x ∈ l → good142 x) l1 → ∃ k, laws_FnExactApplyEdits.f k l0 l1 = some true
theorem laws_FnExactApplyEdits.walk (P : laws_FnExactApplyEdits.Pure) (A0 : Option Addr) (c0 : Nat) (l0 : List (S125)) (A1 : Option Addr) (c1 : Nat) (l1 : List (S142)) (w : World) (w0 : (fun l => l.length ≤ 9223372036854775807 ∧ ∀ x, x ∈ l → good125 x) l0) (w1 : (fun l => l.length ≤ 9223372036854775807 ∧ ∀ x, x ∈ l → good142 x) l1) (hr0 : Kd.C k125 w A0 l0.length l0) (hc0 : l0.length ≤ c0) (hr1 : Kd.C k142 w A1 l1.length l1) (hc1 : l1.length ≤ c1) :
    Calls Try.prog 5 #[.slice A0 l0.length c0, .slice A1 l1.length c1] w fun e w' => e = .returned (.bool true) ∧ Below w.heap.size w w' := by
  obtain ⟨k, hk⟩ := P l0 l1 w0 w1
  exact (laws_FnExactApplyEdits.calls k A0 c0 l0 A1 c1 l1 w hr0 hc0 hr1 hc1 hk).mono fun e w' h => ⟨h.1, h.2⟩
end Go.Proofs.Ytcpljigliklgcaa.Q
end

section
namespace Go.Proofs.Ytcpljigliklgcaa.Q
open Go.RowKit Go.Proofs.YtcpljigliklgcaaW.PrintWords Go.Proofs.YtcpljigliklgcaaW.PrintLast
theorem isValue_f (n : Int) : impl_isValue.f n = some (inB n (-1000000) 1000000) := by
  unfold impl_isValue.f impl_within.f inB
  by_cases h : (-1000000 : Int) ≤ n <;> simp [h]
theorem mapOK_l0 (l : List S51) (hlen : l.length ≤ 4611686018427387904) (d : Nat) : ∀ i : Nat, i + d = l.length → (∀ j, j < i → entAt l j = true) → Ev (fun k => impl_MapOK.l0 k l l (l.length : Int) (i : Int)) (mapB l) := by
  induction d with
  | zero =>
    intro i hi hp
    have e : mapB l = decide ((l.length : Int) ≤ 12) := by
      unfold mapB
      rw [allR_true (fun j hj => hp j (by omega)), Bool.and_true]
      by_cases h : l.length ≤ 12
      · rw [decide_eq_true h, decide_eq_true (by omega)]
      · rw [decide_eq_false h, decide_eq_false (by omega)]
    rw [e]
    exact Ev.step (f := fun _ => some (decide ((l.length : Int) ≤ 12))) (fun k => by simp only [impl_MapOK.l0]; rw [if_neg (by omega)]) (Ev.now _)
  | succ d ih =>
    intro i hi hp
    have hw : wrap64 ((i : Int) + 1) = ((i + 1 : Nat) : Int) := by unfold wrap64; omega
    have hbad : entAt l i = false → mapB l = false := fun h => by
      unfold mapB
      rw [allR_false (j := i) (by omega) h, Bool.and_false]
    have hgo : entAt l i = true → Ev (fun k => impl_MapOK.l0 k l l (l.length : Int) ((i + 1 : Nat) : Int)) (mapB l) := fun h => ih (i + 1) (by omega) (fun j hj => by
      by_cases e : j = i
      · rw [e]; exact h
      · exact hp j (by omega))
    have E : entAt l i = (nameB (rd_T51 l (i : Int)).f0 && inB (rd_T51 l (i : Int)).f1 (-1000000) 1000000 && (i == 0 || sblt (rd_T51 l ((i : Int) - 1)).f0 (rd_T51 l (i : Int)).f0)) := rfl
    have c1 : (i : Int) < (l.length : Int) := by omega
    have c2 : (0 : Int) ≤ (i : Int) := by omega
    cases hN : nameB (rd_T51 l (i : Int)).f0 with
    | false =>
      rw [hbad (by rw [E, hN]; rfl)]
      refine Ev.step (f := fun _ => some false) (fun k => ?_) (Ev.now _)
      simp only [impl_MapOK.l0, impl_NameOK.f, hN, if_pos c1, if_pos c2, Option.bind_some, Bool.false_eq_true, if_false]
    | true =>
      cases hV : inB (rd_T51 l (i : Int)).f1 (-1000000) 1000000 with
      | false =>
        rw [hbad (by rw [E, hN, hV]; rfl)]
        refine Ev.step (f := fun _ => some false) (fun k => ?_) (Ev.now _)
        simp only [impl_MapOK.l0, impl_NameOK.f, isValue_f, hN, hV, if_pos c1, if_pos c2, Option.bind_some, Bool.false_eq_true, if_false, if_true]
      | true =>
        by_cases hz : i = 0
        · have hg := hgo (by rw [E, hN, hV]; simp [hz])
          refine Ev.step (fun k => ?_) hg
          have c3 : ¬ ((i : Int) > 0) := by omega
          simp only [impl_MapOK.l0, impl_NameOK.f, isValue_f, hN, hV, if_pos c1, if_pos c2, if_neg c3, Option.bind_some, if_true, hw]
        · have c3 : (i : Int) > 0 := by omega
          have hw2 : wrap64 ((i : Int) - 1) = (i : Int) - 1 := by unfold wrap64; omega
          have c4 : (0 : Int) ≤ (i : Int) - 1 := by omega
          have c5 : (i : Int) - 1 < (l.length : Int) := by omega
          have z : (i == 0) = false := by simp [hz]
          cases hS : sblt (rd_T51 l ((i : Int) - 1)).f0 (rd_T51 l (i : Int)).f0 with
          | false =>
            rw [hbad (by rw [E, hN, hV, hS, z]; rfl)]
            have hS1 : Op.bytesLess (rd_T51 l ((i : Int) - 1)).f0.toList (rd_T51 l (i : Int)).f0.toList = false := hS
            refine Ev.step (f := fun _ => some false) (fun k => ?_) (Ev.now _)
            simp only [impl_MapOK.l0, impl_NameOK.f, isValue_f, hN, hV, hS1, hw2, if_pos c1, if_pos c2, if_pos c3, if_pos c4, if_pos c5, Option.bind_some, if_true, Bool.false_eq_true, if_false]
          | true =>
            have hg := hgo (by rw [E, hN, hV, hS]; simp)
            have hS1 : Op.bytesLess (rd_T51 l ((i : Int) - 1)).f0.toList (rd_T51 l (i : Int)).f0.toList = true := hS
            refine Ev.step (fun k => ?_) hg
            simp only [impl_MapOK.l0, impl_NameOK.f, isValue_f, hN, hV, hS1, hw2, if_pos c1, if_pos c2, if_pos c3, if_pos c4, if_pos c5, Option.bind_some, if_true, hw]
theorem mapOK_ev (l : List S51) (hlen : l.length ≤ 4611686018427387904) : Ev (fun k => impl_MapOK.f k l) (mapB l) := mapOK_l0 l hlen l.length 0 (by omega) (fun j hj => absurd hj (Nat.not_lt_zero _))
end Go.Proofs.Ytcpljigliklgcaa.Q
end

section
namespace Go.Proofs.Ytcpljigliklgcaa.Q
open Go.RowKit Go.Proofs.YtcpljigliklgcaaW.PrintWords Go.Proofs.YtcpljigliklgcaaW.PrintLast Go.Proofs.YtcpljigliklgcaaW.PrintMore
attribute [local go_sem] max2_int min2_int max_two min_two max_three min_three max_four min_four   -- for this text's walks alone
set_option linter.unusedVariables false
set_option linter.unusedSimpArgs false
attribute [local go_sem] bin_leq bin_gtr bin_geq
theorem eqA51 (d : Nat) (w : World) (x0 y0 : ByteArray) (x1 y1 : Int) :
    (Op.equalIn (d + 2) 51 (.agg #[.string x0, .int .i64 x1]) (.agg #[.string y0, .int .i64 y1])).run Try.prog w = .ok (x0.toList == y0.toList && (x1 == y1)) w := by
  refine eqA_of Try.underlying51 (by kernel_rfl) ?_
  refine eqf_cons (by rfl) (by go_simp; rfl) (by go_simp; rfl) (by go_simp) ?_
  exact eqf_last (by rfl) (by go_simp; rfl) (by go_simp; rfl) (by go_simp)
end Go.Proofs.Ytcpljigliklgcaa.Q
end

section
namespace Go.Proofs.Ytcpljigliklgcaa.Q
open Go.RowKit Go.Proofs.YtcpljigliklgcaaW.PrintWords Go.Proofs.YtcpljigliklgcaaW.PrintLast Go.Proofs.YtcpljigliklgcaaW.PrintMore
attribute [local go_sem] max2_int min2_int max_two min_two max_three min_three max_four min_four   -- for this text's walks alone
set_option linter.unusedVariables false
set_option linter.unusedSimpArgs false
attribute [local go_sem] bin_leq bin_gtr bin_geq
theorem ev_map_loop {α β : Type} {L : Nat → List α → List β → Int → Option (List β)} {g : Nat → α → Option β} {cv : α → β} {z : α}
    (step : ∀ k xs acc i, L (k + 1) xs acc i = if i < (xs.length : Int) then (if 0 ≤ i then ((g k (xs.getD i.toNat z)).bind fun y => (if i < (acc.length : Int) then (L k xs (acc.set i.toNat y) (wrap64 (i + 1))) else none)) else none) else some acc)
    (xs : List α) (hlen : xs.length ≤ 4611686018427387904) (hg : ∀ x, x ∈ xs → Ev (fun k => g k x) (cv x)) (acc : List β) (ha : acc.length = xs.length) : Ev (fun k => L k xs acc 0) (xs.map cv) := by
  have key : ∀ d (i : Nat) (acc : List β), i + d = xs.length → acc.length = xs.length → Ev (fun k => L k xs acc (i : Int)) (acc.take i ++ (xs.drop i).map cv) := by
    intro d
    induction d with
    | zero =>
      intro i acc hi ha
      refine Ev.step (f := fun _ => some acc) (fun k => by rw [step, if_neg (by omega)]) ?_
      rw [List.take_of_length_le (by omega), List.drop_eq_nil_of_le (by omega)]
      simpa using Ev.now acc
    | succ d ih =>
      intro i acc hi ha
      have hl : i < xs.length := by omega
      have hw : wrap64 ((i : Int) + 1) = ((i + 1 : Nat) : Int) := by unfold wrap64; omega
      have hx : xs.getD ((i : Int).toNat) z = xs[i] := by simp [List.getD_eq_getElem?_getD, List.getElem?_eq_getElem hl]
      refine Ev.step (f := fun k => (g k xs[i]).bind fun y => L k xs (acc.set i y) ((i + 1 : Nat) : Int)) (fun k => ?_) ?_
      · rw [step, if_pos (by omega), if_pos (by omega), hx, hw]
        congr 1
        funext y
        rw [if_pos (by omega)]
        simp
      · have h2 := ih (i + 1) (acc.set i (cv xs[i])) (by omega) (by simpa using ha)
        have e : (acc.set i (cv xs[i])).take (i + 1) ++ (xs.drop (i + 1)).map cv = acc.take i ++ (xs.drop i).map cv := by
          rw [List.drop_eq_getElem_cons hl, List.map_cons, List.take_succ_eq_append_getElem (by simpa using (show i < acc.length by omega)), List.take_set_of_le (by omega)]
          simp
        rw [e] at h2
        exact Ev.bind (hg _ (List.getElem_mem hl)) h2
  have h := key xs.length 0 acc (by omega) ha
  simpa using h
theorem ev_refl_loop {α : Type} {L : Nat → List α → List α → Int → Option Bool} {g : Nat → α → α → Option Bool} {z : α}
    (step : ∀ k xs ys i, L (k + 1) xs ys i = if i < (xs.length : Int) then (if 0 ≤ i then (if i < (ys.length : Int) then ((g k (xs.getD i.toNat z) (ys.getD i.toNat z)).bind fun t => (if t = true then L k xs ys (wrap64 (i + 1)) else some false)) else none) else none) else some true)
    (xs : List α) (hlen : xs.length ≤ 4611686018427387904) (hg : ∀ x, x ∈ xs → Ev (fun k => g k x x) true) : Ev (fun k => L k xs xs 0) true := by
  have key : ∀ d (i : Nat), i + d = xs.length → Ev (fun k => L k xs xs (i : Int)) true := by
    intro d
    induction d with
    | zero =>
      intro i hi
      exact Ev.step (f := fun _ => some true) (fun k => by rw [step, if_neg (by omega)]) (Ev.now true)
    | succ d ih =>
      intro i hi
      have hl : i < xs.length := by omega
      have hw : wrap64 ((i : Int) + 1) = ((i + 1 : Nat) : Int) := by unfold wrap64; omega
      have hx : xs.getD ((i : Int).toNat) z = xs[i] := by simp [List.getD_eq_getElem?_getD, List.getElem?_eq_getElem hl]
      refine Ev.step (f := fun k => (g k xs[i] xs[i]).bind fun t => if t = true then L k xs xs ((i + 1 : Nat) : Int) else some false) (fun k => ?_) ?_
      · rw [step, if_pos (by omega), if_pos (by omega), if_pos (by omega), hx, hw]
      · refine Ev.bind (hg _ (List.getElem_mem hl)) ?_
        simp only [if_true]
        exact ih (i + 1) (by omega)
  exact key xs.length 0 (by omega)
theorem ev_sz_loop {α : Type} {L : Nat → List α → Int → Int → Option Int} {g : Nat → α → Int → Option Int} {z : α}
    (step : ∀ k xs left i, L (k + 1) xs left i = if i < (xs.length : Int) then (if 0 ≤ i then ((g k (xs.getD i.toNat z) left).bind fun t => (if t < 0 then some (-1) else L k xs t (wrap64 (i + 1)))) else none) else some left)
    (xs : List α) (hlen : xs.length ≤ 4611686018427387904) (hg : ∀ x, x ∈ xs → ∀ left : Int, 0 ≤ left → left ≤ 1048576 → ∃ r, Ev (fun k => g k x left) r ∧ r ≤ left) (left : Int) (h0 : 0 ≤ left) (h1 : left ≤ 1048576) :
    ∃ r, Ev (fun k => L k xs left 0) r ∧ r ≤ left := by
  have key : ∀ d (i : Nat) (left : Int), i + d = xs.length → 0 ≤ left → left ≤ 1048576 → ∃ r, Ev (fun k => L k xs left (i : Int)) r ∧ r ≤ left := by
    intro d
    induction d with
    | zero =>
      intro i left hi h0 h1
      exact ⟨left, Ev.step (f := fun _ => some left) (fun k => by rw [step, if_neg (by omega)]) (Ev.now left), by omega⟩
    | succ d ih =>
      intro i left hi h0 h1
      have hl : i < xs.length := by omega
      have hw : wrap64 ((i : Int) + 1) = ((i + 1 : Nat) : Int) := by unfold wrap64; omega
      have hx : xs.getD ((i : Int).toNat) z = xs[i] := by simp [List.getD_eq_getElem?_getD, List.getElem?_eq_getElem hl]
      obtain ⟨t, ht, htl⟩ := hg _ (List.getElem_mem hl) left h0 h1
      by_cases hn : t < 0
      · refine ⟨-1, Ev.step (f := fun k => (g k xs[i] left).bind fun t => if t < 0 then some (-1) else L k xs t ((i + 1 : Nat) : Int)) (fun k => ?_) (Ev.bind ht ?_), by omega⟩
        · rw [step, if_pos (by omega), if_pos (by omega), hx, hw]
        · simp only [hn, if_true]
          exact Ev.now _
      · obtain ⟨r, hr, hrl⟩ := ih (i + 1) t (by omega) (by omega) (by omega)
        refine ⟨r, Ev.step (f := fun k => (g k xs[i] left).bind fun t => if t < 0 then some (-1) else L k xs t ((i + 1 : Nat) : Int)) (fun k => ?_) (Ev.bind ht ?_), by omega⟩
        · rw [step, if_pos (by omega), if_pos (by omega), hx, hw]
        · simp only [hn, if_false]
          exact hr
  exact key xs.length 0 left (by omega) h0 h1
end Go.Proofs.Ytcpljigliklgcaa.Q
end

section
namespace Go.Proofs.Ytcpljigliklgcaa.Q
open Go.RowKit Go.Proofs.YtcpljigliklgcaaW.PrintWords Go.Proofs.YtcpljigliklgcaaW.PrintLast
set_option linter.unusedVariables false
theorem Ev.shift {α : Type} {g h : Nat → Option α} {r : α} {c d : Nat} (e : ∀ k, g (k + c) = h (k + d)) (k : Ev h r) : Ev g r := by
  obtain ⟨K, hK⟩ := k
  refine ⟨K + c, fun n hn => ?_⟩
  obtain ⟨m, rfl⟩ : ∃ m, n = m + c := ⟨n - c, by omega⟩
  rw [e]
  exact hK _ (by omega)
theorem Ev.at_ {α : Type} {g : Nat → Option α} {r : α} {c : Nat} (e : ∀ k, g (k + c) = some r) : Ev g r := by
  refine ⟨c, fun n hn => ?_⟩
  obtain ⟨m, rfl⟩ : ∃ m, n = m + c := ⟨n - c, by omega⟩
  exact e m
theorem Ev.succ {α : Type} {g : Nat → Option α} {r : α} (h : Ev (fun k => g (k + 1)) r) : Ev g r := Ev.step (fun _ => rfl) h
theorem ev_all_loop {L : Nat → Int → Option Bool} {n : Nat} {p : Nat → Bool} {fin : Bool}
    (step : ∀ i : Nat, i < n → (∀ j, j < i → p j = true) → p i = true → ∃ c d, ∀ k, L (k + c) (i : Int) = L (k + d) ((i + 1 : Nat) : Int))
    (stop : ∀ i : Nat, i < n → (∀ j, j < i → p j = true) → p i = false → ∃ c, ∀ k, L (k + c) (i : Int) = some false)
    (done : Ev (fun k => L k (n : Int)) fin) : Ev (fun k => L k 0) (allR p n && fin) := by
  have key : ∀ d (i : Nat), i + d = n → (∀ j, j < i → p j = true) → Ev (fun k => L k (i : Int)) (allR p n && fin) := by
    intro d
    induction d with
    | zero =>
      intro i hi hp
      obtain rfl : i = n := by omega
      rw [allR_true hp, Bool.true_and]
      exact done
    | succ d ih =>
      intro i hi hp
      cases h : p i with
      | true =>
        obtain ⟨c, d', e⟩ := step i (by omega) hp h
        refine Ev.shift e (ih (i + 1) (by omega) (fun j hj => ?_))
        rcases Nat.lt_or_eq_of_le (Nat.le_of_lt_succ hj) with h1 | h1
        · exact hp j h1
        · rw [h1]; exact h
      | false =>
        obtain ⟨c, e⟩ := stop i (by omega) hp h
        rw [allR_false (by omega) h, Bool.false_and]
        exact Ev.at_ e
  exact key n 0 (by omega) (fun j hj => absurd hj (Nat.not_lt_zero _))
theorem wrap_i {i : Nat} (h : i < 4611686018427387904) : wrap64 ((i : Int) + 1) = ((i + 1 : Nat) : Int) := by unfold wrap64; omega
theorem wrap_1 {i : Int} (h0 : 0 ≤ i) (h : i < 4611686018427387904) : wrap64 (i - 1) = i - 1 := by unfold wrap64; omega
end Go.Proofs.Ytcpljigliklgcaa.Q
end

section
namespace Go.Proofs.Ytcpljigliklgcaa.Q
open Go.RowKit Go.Proofs.YtcpljigliklgcaaW.PrintWords Go.Proofs.YtcpljigliklgcaaW.PrintLast
set_option linter.unusedVariables false
set_option linter.unusedSimpArgs false
theorem rdEntry {l : List S51} {i : Nat} (h : i < l.length) : rd_T51 l (i : Int) = l[i] := by
  simp [rd_T51, List.getD_eq_getElem?_getD, List.getElem?_eq_getElem h]
end Go.Proofs.Ytcpljigliklgcaa.Q
end

section
namespace Go.Proofs.Ytcpljigliklgcaa.Q
open Go.RowKit Go.Proofs.YtcpljigliklgcaaW.PrintWords Go.Proofs.YtcpljigliklgcaaW.PrintLast
set_option linter.unusedVariables false
set_option linter.unusedSimpArgs false
theorem mapB_rise {l : List S51} (h : mapB l = true) : RiseP l := by
  unfold mapB at h
  simp only [Bool.and_eq_true, allR_iff] at h
  have adj : ∀ j (hj : j + 1 < l.length), sblt l[j].f0 l[j + 1].f0 = true := by
    intro j hj
    have h2 := h.2 (j + 1) hj
    unfold entAt at h2
    have e : (((j + 1 : Nat) : Int) - 1) = (j : Int) := by omega
    rw [e, rdEntry (i := j) (by omega), rdEntry hj] at h2
    have z : (j + 1 == 0) = false := rfl
    simp only [z, Bool.false_or, Bool.and_eq_true] at h2
    exact h2.2
  unfold RiseP
  rw [List.pairwise_iff_getElem]
  intro i j hi hj hij
  obtain ⟨d, rfl⟩ : ∃ d, j = i + 1 + d := ⟨j - (i + 1), by omega⟩
  induction d with
  | zero => exact adj i hj
  | succ d ih => exact sblt_trans (ih (by omega) (by omega)) (adj (i + 1 + d) hj)
theorem cmpK_self {k : ByteArray} {x : S51} : cmpK k x = 0 ↔ x.f0 = k := by
  unfold cmpK cmpB
  rw [cmp_eq]
  constructor
  · intro h
    apply toList_inj
    rw [ByteArray.toList_eq, ByteArray.toList_eq, h]
  · intro h; rw [h]
theorem find_some {l : List S51} {k : ByteArray} {i : Nat} (h : RiseP l) (hi : i < l.length) (hk : l[i].f0 = k) : cntN (cmpK k) l = i ∧ fndB (cmpK k) l = true := by
  have hp := List.pairwise_iff_getElem.mp h
  have hc : cntN (cmpK k) l = i := by
    refine cntN_is l i (by omega) (fun t ht h2 => ?_) (fun t ht h2 => ?_)
    · rw [cmpK_lt, ← hk]
      exact hp t i ht hi h2
    · have h3 : ¬ cmpK k l[t] < 0 := by
        rw [cmpK_lt, ← hk]
        rcases Nat.lt_or_eq_of_le h2 with h4 | h4
        · rw [sblt_asymm (hp i t hi ht h4)]
          simp
        · subst h4
          rw [sblt_irrefl]
          simp
      omega
  refine ⟨hc, ?_⟩
  unfold fndB
  rw [hc, List.getElem?_eq_getElem hi]
  simp only [beq_iff_eq]
  exact cmpK_self.mpr hk
theorem find_f {l : List S51} {k : ByteArray} (h : RiseP l) (hl : l.length ≤ 1048576) : impl_find.f l k = some (((cntN (cmpK k) l : Nat) : Int), fndB (cmpK k) l) := by
  unfold impl_find.f bs_find.f
  rw [if_pos h, if_pos (by omega)]
  rfl
end Go.Proofs.Ytcpljigliklgcaa.Q
end

section
namespace Go.Proofs.Ytcpljigliklgcaa.Q
open Go.RowKit Go.Proofs.YtcpljigliklgcaaW.PrintWords Go.Proofs.YtcpljigliklgcaaW.PrintLast
set_option linter.unusedVariables false
set_option linter.unusedSimpArgs false
theorem cntN_le (c : S51 → Int) (l : List S51) : cntN c l ≤ l.length := List.countP_le_length
theorem cnt_at {l : List S51} (h : RiseP l) (k : ByteArray) : ∀ t (ht : t < l.length), (t < cntN (cmpK k) l ↔ sblt l[t].f0 k = true) := by
  have hp := List.pairwise_iff_getElem.mp h
  -- the first place that is not less
  have key : ∀ d i, i + d = l.length → (∀ t (ht : t < l.length), t < i → sblt l[t].f0 k = true) → ∃ c, c ≤ l.length ∧ (∀ t (ht : t < l.length), t < c → sblt l[t].f0 k = true) ∧ (∀ t (ht : t < l.length), c ≤ t → sblt l[t].f0 k = false) := by
    intro d
    induction d with
    | zero => intro i hi hlo; exact ⟨i, by omega, hlo, fun t ht h2 => by omega⟩
    | succ d ih =>
      intro i hi hlo
      have hl : i < l.length := by omega
      cases hb : sblt l[i].f0 k with
      | true =>
        refine ih (i + 1) (by omega) (fun t ht h2 => ?_)
        rcases Nat.lt_or_eq_of_le (Nat.le_of_lt_succ h2) with h3 | h3
        · exact hlo t ht h3
        · subst h3; exact hb
      | false =>
        refine ⟨i, by omega, hlo, fun t ht h2 => ?_⟩
        rcases Nat.lt_or_eq_of_le h2 with h3 | h3
        · cases hb2 : sblt l[t].f0 k with
          | false => rfl
          | true =>
            have := sblt_trans (hp i t hl ht h3) hb2
            rw [hb] at this
            cases this
        · subst h3; exact hb
  obtain ⟨c, hc, h1, h2⟩ := key l.length 0 (by omega) (fun t ht h2 => absurd h2 (Nat.not_lt_zero _))
  have e : cntN (cmpK k) l = c := by
    refine cntN_is l c hc (fun t ht h3 => (cmpK_lt _ _).mpr (h1 t ht h3)) (fun t ht h3 => ?_)
    have h4 : ¬ cmpK k l[t] < 0 := by
      rw [cmpK_lt, h2 t ht h3]
      simp
    omega
  intro t ht
  rw [e]
  constructor
  · exact h1 t ht
  · intro h3
    rcases Nat.lt_or_ge t c with h4 | h4
    · exact h4
    · rw [h2 t ht h4] at h3
      cases h3
theorem fnd_at {l : List S51} (h : RiseP l) (k : ByteArray) : fndB (cmpK k) l = true ↔ ∃ hc : cntN (cmpK k) l < l.length, (l[cntN (cmpK k) l]'hc).f0 = k := by
  unfold fndB
  constructor
  · intro h1
    cases hx : l[cntN (cmpK k) l]? with
    | none => rw [hx] at h1; cases h1
    | some x =>
      rw [hx] at h1
      obtain ⟨hi, rfl⟩ := List.getElem?_eq_some_iff.mp hx
      exact ⟨hi, cmpK_self.mp (by simpa using h1)⟩
  · rintro ⟨hc, e⟩
    rw [List.getElem?_eq_getElem hc]
    simp only [beq_iff_eq]
    exact cmpK_self.mpr e
def behK (k : ByteArray) (l : List S51) : Nat := cntN (cmpK k) l + if fndB (cmpK k) l = true then 1 else 0
theorem behK_le {l : List S51} (h : RiseP l) (k : ByteArray) : behK k l ≤ l.length := by
  unfold behK
  by_cases hf : fndB (cmpK k) l = true
  · obtain ⟨hc, _⟩ := (fnd_at h k).mp hf
    rw [if_pos hf]
    omega
  · rw [if_neg hf]
    have := cntN_le (cmpK k) l
    omega
theorem beh_at {l : List S51} (h : RiseP l) (k : ByteArray) : ∀ t (ht : t < l.length), behK k l ≤ t → sblt k l[t].f0 = true := by
  intro t ht hb
  have hp := List.pairwise_iff_getElem.mp h
  unfold behK at hb
  by_cases hf : fndB (cmpK k) l = true
  · obtain ⟨hc, e⟩ := (fnd_at h k).mp hf
    rw [if_pos hf] at hb
    rw [← e]
    exact hp _ t hc ht (by omega)
  · rw [if_neg hf] at hb
    have h1 : sblt l[t].f0 k = false := by
      cases h2 : sblt l[t].f0 k with
      | false => rfl
      | true => have := (cnt_at h k t ht).mpr h2; omega
    cases h3 : sblt k l[t].f0 with
    | true => rfl
    | false =>
      exfalso
      have e := sblt_tri h1 h3
      apply hf
      rw [fnd_at h k]
      have hc : cntN (cmpK k) l = t := by
        rcases Nat.lt_or_ge (cntN (cmpK k) l) t with h4 | h4
        · have h5 := hp _ t (by omega) ht h4
          rw [e] at h5
          have := (cnt_at h k _ (by omega)).mpr h5
          omega
        · omega
      exact ⟨by omega, by simp only [hc]; exact e⟩
def putL (l : List S51) (k : ByteArray) (v : Int) : List S51 := l.take (cntN (cmpK k) l) ++ ⟨k, v⟩ :: l.drop (behK k l)
def remL (l : List S51) (k : ByteArray) : List S51 := l.take (cntN (cmpK k) l) ++ l.drop (behK k l)
theorem remL_rise {l : List S51} (h : RiseP l) (k : ByteArray) : RiseP (remL l k) := by
  unfold remL RiseP
  rw [List.pairwise_append]
  refine ⟨h.sublist (List.take_sublist _ _), h.sublist (List.drop_sublist _ _), fun a ha b hb => ?_⟩
  obtain ⟨i, hi, rfl⟩ := List.mem_take_iff_getElem.mp ha
  obtain ⟨j, hj, rfl⟩ := List.mem_drop_iff_getElem.mp hb
  have h1 := (cnt_at h k i (by omega)).mp (by omega)
  have h2 := beh_at h k (behK k l + j) (by omega) (by omega)
  exact sblt_trans h1 h2
theorem putL_rise {l : List S51} (h : RiseP l) (k : ByteArray) (v : Int) : RiseP (putL l k v) := by
  unfold putL RiseP
  rw [List.pairwise_append, List.pairwise_cons]
  refine ⟨h.sublist (List.take_sublist _ _), ⟨fun b hb => ?_, h.sublist (List.drop_sublist _ _)⟩, fun a ha b hb => ?_⟩
  · obtain ⟨j, hj, rfl⟩ := List.mem_drop_iff_getElem.mp hb
    exact beh_at h k (behK k l + j) (by omega) (by omega)
  · obtain ⟨i, hi, rfl⟩ := List.mem_take_iff_getElem.mp ha
    have h1 := (cnt_at h k i (by omega)).mp (by omega)
    rcases List.mem_cons.mp hb with rfl | hb
    · exact h1
    · obtain ⟨j, hj, rfl⟩ := List.mem_drop_iff_getElem.mp hb
      exact sblt_trans h1 (beh_at h k (behK k l + j) (by omega) (by omega))
theorem putL_len (l : List S51) (k : ByteArray) (v : Int) : (putL l k v).length ≤ l.length + 1 := by
  unfold putL
  have h1 := cntN_le (cmpK k) l
  have h2 : cntN (cmpK k) l ≤ behK k l := by unfold behK; omega
  rw [List.length_append, List.length_take, List.length_cons, List.length_drop]
  omega
theorem remL_len (l : List S51) (k : ByteArray) : (remL l k).length ≤ l.length := by
  unfold remL
  have h1 := cntN_le (cmpK k) l
  have h2 : cntN (cmpK k) l ≤ behK k l := by unfold behK; omega
  rw [List.length_append, List.length_take, List.length_drop]
  omega
end Go.Proofs.Ytcpljigliklgcaa.Q
end

section
namespace Go.Proofs.Ytcpljigliklgcaa.Q
open Go.RowKit Go.Proofs.YtcpljigliklgcaaW.PrintWords Go.Proofs.YtcpljigliklgcaaW.PrintLast
set_option linter.unusedVariables false
set_option linter.unusedSimpArgs false
theorem behK_found {l : List S51} {k : ByteArray} (h : fndB (cmpK k) l = true) : behK k l = cntN (cmpK k) l + 1 := by
  unfold behK
  rw [if_pos h]
theorem behK_new {l : List S51} {k : ByteArray} (h : fndB (cmpK k) l = false) : behK k l = cntN (cmpK k) l := by
  unfold behK
  rw [h, if_neg (by simp)]
  omega
def edit1 (l : List S51) (e : S134) : List S51 := if e.f2 = true then remL l e.f0 else putL l e.f0 e.f1
theorem edit1_rise {l : List S51} (h : RiseP l) (e : S134) : RiseP (edit1 l e) := by
  unfold edit1
  split
  · exact remL_rise h _
  · exact putL_rise h _ _
theorem edit1_len (l : List S51) (e : S134) : (edit1 l e).length ≤ l.length + 1 := by
  unfold edit1
  split
  · have := remL_len l e.f0
    omega
  · exact putL_len l _ _
theorem edits_len : ∀ (ed : List S134) (l : List S51), (ed.foldl edit1 l).length ≤ l.length + ed.length
  | [], l => by simp
  | e :: r, l => by
    have h1 := edits_len r (edit1 l e)
    have h2 := edit1_len l e
    rw [List.foldl_cons, List.length_cons]
    omega
theorem clone_e {l : List S51} (h : l.length ≤ 2000000) : impl_Entry_94.f l = some l := by
  unfold impl_Entry_94.f
  simp only [Option.bind_some, List.length_nil, Nat.zero_add, List.nil_append, (show l.length < 5864062014805 by omega), if_true]
theorem delete_at {l : List S51} {c : Nat} (h : c < l.length) (hl : l.length ≤ 2000000) : impl_Entry_170.f l (c : Int) (wrap64 ((c : Int) + 1)) = some (l.take c ++ l.drop (c + 1)) := by
  have hw : wrap64 ((c : Int) + 1) = (c : Int) + 1 := by unfold wrap64; omega
  unfold impl_Entry_170.f
  rw [hw, if_pos (by omega), if_pos rfl, if_pos (by omega), Int.toNat_natCast]
theorem insert_at {l : List S51} {c : Nat} (x : S51) (h : c ≤ l.length) (hl : l.length ≤ 2000000) : impl_Entry_171.f l (c : Int) [x] = some (l.take c ++ x :: l.drop c) := by
  unfold impl_Entry_171.f
  simp only [Int.natCast_nonneg, if_true, (show ((c : Int) ≤ (l.length : Int)) by omega), (show l.length < 5000000 by omega), Int.toNat_natCast, List.append_assoc, List.cons_append, List.nil_append]
theorem edited_loop (ed : List S134) (hed : ed.length ≤ 1000000) : ∀ (d i : Nat) (l : List S51), i + d = ed.length → RiseP l → l.length + d ≤ 1000000 → Ev (fun k => impl_edited.l0 k l ed (ed.length : Int) (i : Int)) ((ed.drop i).foldl edit1 l) := by
  intro d
  induction d with
  | zero =>
    intro i l hi hr hl
    rw [List.drop_of_length_le (by omega)]
    refine Ev.at_ (c := 1) (fun k => ?_)
    simp only [impl_edited.l0]
    rw [if_neg (by omega)]
    rfl
  | succ d ih =>
    intro i l hi hr hl
    have hil : i < ed.length := by omega
    have c1 : (i : Int) < (ed.length : Int) := by omega
    have e1 : rd_T134 ed (i : Int) = ed[i] := by simp [rd_T134, List.getD_eq_getElem?_getD, List.getElem?_eq_getElem hil]
    have hn := ih (i + 1) (edit1 l ed[i]) (by omega) (edit1_rise hr _) (by have := edit1_len l ed[i]; omega)
    rw [List.drop_eq_getElem_cons hil, List.foldl_cons]
    have hcl := cntN_le (cmpK ed[i].f0) l
    refine Ev.succ ?_
    simp only [impl_edited.l0, c1, Int.natCast_nonneg, if_true, e1, find_f hr (show l.length ≤ 1048576 by omega), Option.bind_some, wrap_i (show i < 4611686018427387904 by omega)]
    cases hf : fndB (cmpK ed[i].f0) l with
    | true =>
      obtain ⟨hc, _⟩ := (fnd_at hr ed[i].f0).mp hf
      have hdl : (l.take (cntN (cmpK ed[i].f0) l) ++ l.drop (cntN (cmpK ed[i].f0) l + 1)).length ≤ 2000000 := by
        rw [List.length_append, List.length_take, List.length_drop]; omega
      have hdc : cntN (cmpK ed[i].f0) l ≤ (l.take (cntN (cmpK ed[i].f0) l) ++ l.drop (cntN (cmpK ed[i].f0) l + 1)).length := by
        rw [List.length_append, List.length_take, List.length_drop]; omega
      have ht : (l.take (cntN (cmpK ed[i].f0) l) ++ l.drop (cntN (cmpK ed[i].f0) l + 1)).take (cntN (cmpK ed[i].f0) l) = l.take (cntN (cmpK ed[i].f0) l) := by
        rw [List.take_append_of_le_length (by rw [List.length_take]; omega), List.take_take, Nat.min_self]
      have hdd : (l.take (cntN (cmpK ed[i].f0) l) ++ l.drop (cntN (cmpK ed[i].f0) l + 1)).drop (cntN (cmpK ed[i].f0) l) = l.drop (cntN (cmpK ed[i].f0) l + 1) := by
        rw [List.drop_append, List.drop_eq_nil_of_le (by rw [List.length_take]; omega), List.length_take, Nat.min_eq_left (by omega), Nat.sub_self, List.drop_zero, List.nil_append]
      simp only [if_true, delete_at hc (show l.length ≤ 2000000 by omega), Option.bind_some, insert_at _ hdc hdl, ht, hdd]
      cases hg : ed[i].f2 with
      | true =>
        have he : edit1 l ed[i] = l.take (cntN (cmpK ed[i].f0) l) ++ l.drop (cntN (cmpK ed[i].f0) l + 1) := by
          unfold edit1 remL
          rw [if_pos hg, behK_found hf]
        simp only [if_true]
        rw [he] at hn
        rw [he]
        exact hn
      | false =>
        have he : edit1 l ed[i] = l.take (cntN (cmpK ed[i].f0) l) ++ ⟨ed[i].f0, ed[i].f1⟩ :: l.drop (cntN (cmpK ed[i].f0) l + 1) := by
          unfold edit1 putL
          rw [if_neg (by simp [hg]), behK_found hf]
        simp only [Bool.false_eq_true, if_false]
        rw [he] at hn
        rw [he]
        exact hn
    | false =>
      simp only [Bool.false_eq_true, if_false, insert_at _ hcl (show l.length ≤ 2000000 by omega), Option.bind_some]
      cases hg : ed[i].f2 with
      | true =>
        have he : edit1 l ed[i] = l := by
          unfold edit1 remL
          rw [if_pos hg, behK_new hf, List.take_append_drop]
        simp only [if_true]
        rw [he] at hn
        rw [he]
        exact hn
      | false =>
        have he : edit1 l ed[i] = l.take (cntN (cmpK ed[i].f0) l) ++ ⟨ed[i].f0, ed[i].f1⟩ :: l.drop (cntN (cmpK ed[i].f0) l) := by
          unfold edit1 putL
          rw [if_neg (by simp [hg]), behK_new hf]
        simp only [Bool.false_eq_true, if_false]
        rw [he] at hn
        rw [he]
        exact hn
theorem edited_ev {l : List S51} (ed : List S134) (hr : RiseP l) (hl : l.length + ed.length ≤ 1000000) : Ev (fun k => impl_edited.f k l ed) (ed.foldl edit1 l) := by
  unfold impl_edited.f
  rw [clone_e (by omega)]
  simp only [Option.bind_some]
  have h := edited_loop ed (by omega) ed.length 0 l (by omega) hr hl
  rw [List.drop_zero] at h
  exact h
theorem take_next {l : List S51} {i : Nat} (h : i < l.length) : l.take (i + 1) = l.take i ++ [l[i]] := by
  rw [List.take_add_one, List.getElem?_eq_getElem h]
  rfl
theorem drop_next {l : List S51} {i b : Nat} (h : i < l.length) (hb : b ≤ i) : (l.take (i + 1)).drop b = (l.take i).drop b ++ [l[i]] := by
  rw [take_next h, List.drop_append_of_le_length (by rw [List.length_take]; omega)]
def putAcc (l : List S51) (k : ByteArray) (v : Int) (i : Nat) : List S51 := if i ≤ cntN (cmpK k) l then l.take i else l.take (cntN (cmpK k) l) ++ ⟨k, v⟩ :: (l.take i).drop (behK k l)
theorem putAcc_len (l : List S51) (k : ByteArray) (v : Int) (i : Nat) (hl : l.length ≤ 1000000) : (putAcc l k v i).length < 5864062014805 - 1 := by
  unfold putAcc
  have h1 := cntN_le (cmpK k) l
  split
  · rw [List.length_take]; omega
  · rw [List.length_append, List.length_take, List.length_cons, List.length_drop, List.length_take]; omega
theorem key_ne {l : List S51} (hr : RiseP l) (k : ByteArray) (i : Nat) (hi : i < l.length) (h : i ≠ cntN (cmpK k) l ∨ fndB (cmpK k) l = false) : ¬ (l[i].f0.toList = k.toList) := by
  intro e
  have e2 := toList_inj e
  obtain ⟨h1, h2⟩ := find_some hr hi e2
  rcases h with h | h
  · exact h h1.symm
  · rw [h2] at h; cases h
theorem l01Put_loop {l : List S51} (hr : RiseP l) (k : ByteArray) (v : Int) (hl : l.length ≤ 1000000) : ∀ (d i : Nat), i + d = l.length → Ev (fun q => spec_l01Put.l0 q l k v (putAcc l k v i) (decide (cntN (cmpK k) l < i)) (i : Int)) (putL l k v) := by
  have hcl := cntN_le (cmpK k) l
  have hbl := behK_le hr k
  have hcb : cntN (cmpK k) l ≤ behK k l := by unfold behK; omega
  have hbc : behK k l ≤ cntN (cmpK k) l + 1 := by unfold behK; split <;> omega
  intro d
  induction d with
  | zero =>
    intro i hi
    obtain rfl : i = l.length := by omega
    refine Ev.at_ (c := 1) (fun q => ?_)
    simp only [spec_l01Put.l0]
    rw [if_neg (by omega)]
    by_cases hc : cntN (cmpK k) l < l.length
    · simp only [hc, decide_true, if_true]
      unfold putAcc putL
      rw [if_neg (by omega), List.take_length]
    · have hce : cntN (cmpK k) l = l.length := by omega
      have hlt := putAcc_len l k v l.length hl
      simp only [hc, decide_false, Bool.false_eq_true, if_false, (show (putAcc l k v l.length).length < 5864062014805 by omega), if_true]
      unfold putAcc putL
      rw [if_pos (by omega), hce, List.drop_of_length_le (by omega)]
  | succ d ih =>
    intro i hi
    have hil : i < l.length := by omega
    have c1 : (i : Int) < (l.length : Int) := by omega
    have e1 : rd_T51 l (i : Int) = l[i] := rdEntry hil
    have hn := ih (i + 1) (by omega)
    have hlt := putAcc_len l k v i hl
    have hlt2 : (putAcc l k v i).length < 5864062014805 := by omega
    have w := wrap_i (show i < 4611686018427387904 by omega)
    rcases Nat.lt_trichotomy i (cntN (cmpK k) l) with hic | hic | hic
    · -- ahead of the key
      have hless : Op.bytesLess l[i].f0.toList k.toList = true := (cnt_at hr k i hil).mp hic
      have hne := key_ne hr k i hil (.inl (by omega))
      have d0 : decide (cntN (cmpK k) l < i) = false := decide_eq_false (by omega)
      have d1 : decide (cntN (cmpK k) l < i + 1) = false := decide_eq_false (by omega)
      have ha : putAcc l k v (i + 1) = putAcc l k v i ++ [l[i]] := by
        unfold putAcc
        rw [if_pos (by omega), if_pos (by omega), take_next hil]
      rw [d1, ha] at hn
      refine Ev.succ (Ev.succ ?_)
      simp only [spec_l01Put.l0, spec_l01Put.j1, c1, if_true, d0, Bool.false_eq_true, if_false, Int.natCast_nonneg, e1, hless, Bool.not_true, hne, hlt2, w]
      exact hn
    · -- at its place
      have hless : Op.bytesLess l[i].f0.toList k.toList = false := by
        cases hb : Op.bytesLess l[i].f0.toList k.toList with
        | false => rfl
        | true =>
          have := (cnt_at hr k i hil).mpr hb
          omega
      have d0 : decide (cntN (cmpK k) l < i) = false := decide_eq_false (by omega)
      have d1 : decide (cntN (cmpK k) l < i + 1) = true := decide_eq_true (by omega)
      have ha0 : putAcc l k v i = l.take i := by unfold putAcc; rw [if_pos (by omega)]
      have hlt3 : (l.take i ++ [(⟨k, v⟩ : S51)]).length < 5864062014805 := by rw [List.length_append, List.length_take, List.length_singleton]; omega
      have hlt4 : (l.take i).length < 5864062014805 := by rw [List.length_take]; omega
      have ha1 : putAcc l k v (i + 1) = l.take i ++ ⟨k, v⟩ :: (l.take (i + 1)).drop (behK k l) := by unfold putAcc; rw [if_neg (by omega), ← hic]
      rw [d1, ha1] at hn
      refine Ev.succ (Ev.succ ?_)
      simp only [spec_l01Put.l0, spec_l01Put.j1, c1, if_true, d0, Bool.false_eq_true, if_false, Int.natCast_nonneg, e1, hless, Bool.not_false, ha0, hlt4, Option.bind_some, w]
      cases hf : fndB (cmpK k) l with
      | true =>
        obtain ⟨hc, hk⟩ := (fnd_at hr k).mp hf
        have hkk : l[i].f0.toList = k.toList := by
          have : l[i].f0 = k := by simpa [hic] using hk
          rw [this]
        simp only [hkk, if_true]
        rw [behK_found hf, ← hic, List.drop_of_length_le (by rw [List.length_take]; omega)] at hn
        exact hn
      | false =>
        have hne := key_ne hr k i hil (.inr hf)
        simp only [hne, if_false, hlt3, if_true]
        rw [behK_new hf, ← hic, drop_next hil (Nat.le_refl i), List.drop_of_length_le (by rw [List.length_take]; omega), List.nil_append] at hn
        rw [List.append_assoc]
        exact hn
    · -- behind it
      have hne := key_ne hr k i hil (.inl (by omega))
      have d0 : decide (cntN (cmpK k) l < i) = true := decide_eq_true hic
      have d1 : decide (cntN (cmpK k) l < i + 1) = true := decide_eq_true (by omega)
      have ha : putAcc l k v (i + 1) = putAcc l k v i ++ [l[i]] := by
        unfold putAcc
        rw [if_neg (by omega), if_neg (by omega), drop_next hil (by omega), List.append_assoc, List.cons_append]
      rw [d1, ha] at hn
      refine Ev.succ (Ev.succ ?_)
      simp only [spec_l01Put.l0, spec_l01Put.j1, c1, if_true, d0, Bool.false_eq_true, if_false, Int.natCast_nonneg, e1, hne, hlt2, w]
      exact hn
theorem l01Put_ev {l : List S51} (hr : RiseP l) (k : ByteArray) (v : Int) (hl : l.length ≤ 1000000) : Ev (fun q => spec_l01Put.f q l k v) (putL l k v) := by
  unfold spec_l01Put.f
  have h := l01Put_loop hr k v hl l.length 0 (by omega)
  have e : putAcc l k v 0 = [] := by unfold putAcc; rw [if_pos (Nat.zero_le _), List.take_zero]
  have d : decide (cntN (cmpK k) l < 0) = false := decide_eq_false (by omega)
  rw [e, d] at h
  exact h
def remAcc (l : List S51) (k : ByteArray) (i : Nat) : List S51 := if i ≤ cntN (cmpK k) l then l.take i else l.take (cntN (cmpK k) l) ++ (l.take i).drop (behK k l)
theorem l01Remove_loop {l : List S51} (hr : RiseP l) (k : ByteArray) (hl : l.length ≤ 1000000) : ∀ (d i : Nat), i + d = l.length → Ev (fun q => spec_l01Remove.l0 q l k (remAcc l k i) (i : Int)) (remL l k) := by
  have hcl := cntN_le (cmpK k) l
  have hbl := behK_le hr k
  have hcb : cntN (cmpK k) l ≤ behK k l := by unfold behK; omega
  have hbc : behK k l ≤ cntN (cmpK k) l + 1 := by unfold behK; split <;> omega
  intro d
  induction d with
  | zero =>
    intro i hi
    obtain rfl : i = l.length := by omega
    refine Ev.at_ (c := 1) (fun q => ?_)
    simp only [spec_l01Remove.l0]
    rw [if_neg (by omega)]
    unfold remAcc remL
    by_cases hc : cntN (cmpK k) l < l.length
    · rw [if_neg (by omega), List.take_length]
    · have hce : cntN (cmpK k) l = l.length := by omega
      rw [if_pos (by omega), hce, List.drop_of_length_le (by omega), List.append_nil]
  | succ d ih =>
    intro i hi
    have hil : i < l.length := by omega
    have c1 : (i : Int) < (l.length : Int) := by omega
    have e1 : rd_T51 l (i : Int) = l[i] := rdEntry hil
    have hn := ih (i + 1) (by omega)
    have hlt2 : (remAcc l k i).length < 5864062014805 := by
      unfold remAcc
      split
      · rw [List.length_take]; omega
      · rw [List.length_append, List.length_take, List.length_drop, List.length_take]; omega
    have w := wrap_i (show i < 4611686018427387904 by omega)
    by_cases hat : i = cntN (cmpK k) l ∧ fndB (cmpK k) l = true
    · obtain ⟨hic, hf⟩ := hat
      obtain ⟨hc, hk⟩ := (fnd_at hr k).mp hf
      have hkk : l[i].f0.toList = k.toList := by
        have : l[i].f0 = k := by simpa [hic] using hk
        rw [this]
      have ha : remAcc l k (i + 1) = remAcc l k i := by
        unfold remAcc
        rw [if_neg (by omega), if_pos (by omega), behK_found hf, ← hic, List.drop_of_length_le (by rw [List.length_take]; omega), List.append_nil]
      rw [ha] at hn
      refine Ev.succ ?_
      simp only [spec_l01Remove.l0, c1, if_true, Int.natCast_nonneg, e1, hkk, w]
      exact hn
    · have hne := key_ne hr k i hil (by
        by_cases h1 : i = cntN (cmpK k) l
        · right
          cases hf : fndB (cmpK k) l with
          | false => rfl
          | true => exact absurd ⟨h1, hf⟩ hat
        · exact .inl h1)
      have ha : remAcc l k (i + 1) = remAcc l k i ++ [l[i]] := by
        unfold remAcc
        rcases Nat.lt_trichotomy i (cntN (cmpK k) l) with hic | hic | hic
        · rw [if_pos (by omega), if_pos (by omega), take_next hil]
        · have hf : fndB (cmpK k) l = false := by
            cases hf : fndB (cmpK k) l with
            | false => rfl
            | true => exact absurd ⟨hic, hf⟩ hat
          rw [if_neg (by omega), if_pos (by omega), behK_new hf, ← hic, drop_next hil (Nat.le_refl i), List.drop_of_length_le (by rw [List.length_take]; omega), List.nil_append]
        · rw [if_neg (by omega), if_neg (by omega), drop_next hil (by omega), List.append_assoc]
      rw [ha] at hn
      refine Ev.succ ?_
      simp only [spec_l01Remove.l0, c1, if_true, Int.natCast_nonneg, e1, hne, if_false, hlt2, w]
      exact hn
theorem l01Remove_ev {l : List S51} (hr : RiseP l) (k : ByteArray) (hl : l.length ≤ 1000000) : Ev (fun q => spec_l01Remove.f q l k) (remL l k) := by
  unfold spec_l01Remove.f
  have h := l01Remove_loop hr k hl l.length 0 (by omega)
  have e : remAcc l k 0 = [] := by unfold remAcc; rw [if_pos (Nat.zero_le _), List.take_zero]
  rw [e] at h
  exact h
end Go.Proofs.Ytcpljigliklgcaa.Q
end

section
namespace Go.Proofs.Ytcpljigliklgcaa.Q
open Go.RowKit Go.Proofs.YtcpljigliklgcaaW.PrintWords Go.Proofs.YtcpljigliklgcaaW.PrintLast
set_option linter.unusedVariables false
set_option linter.unusedSimpArgs false
theorem editsOK_ev (l : List S134) (hlen : l.length ≤ 1048576) : Ev (fun k => impl_EditsOK.f k l) (editsB l) := by
  have e : editsB l = (allR (edAt l) l.length && decide ((l.length : Int) ≤ 6)) := by
    unfold editsB
    rw [Bool.and_comm]
    congr 1
    by_cases h : l.length ≤ 6
    · rw [decide_eq_true h, decide_eq_true (by omega)]
    · rw [decide_eq_false h, decide_eq_false (by omega)]
  rw [e]
  refine ev_all_loop (L := fun k i => impl_EditsOK.l0 k l l (l.length : Int) i) (p := edAt l) ?_ ?_ ?_
  · intro i hi hb hp
    refine ⟨1, 0, fun k => ?_⟩
    have c1 : (i : Int) < (l.length : Int) := by omega
    have c2 : (0 : Int) ≤ (i : Int) := by omega
    simp only [edAt, edB, Bool.and_eq_true, Bool.or_eq_true, beq_iff_eq, Bool.not_eq_true', Bool.and_eq_false_iff, decide_eq_false_iff_not, ne_eq, Decidable.not_not] at hp
    obtain ⟨⟨⟨h1, h2⟩, h4⟩, h3⟩ := hp
    simp only [impl_EditsOK.l0, impl_NameOK.f, isValue_f, h1, h2, c1, c2, if_true, Option.bind_some, wrap_i (show i < 4611686018427387904 by omega), Nat.add_zero]
    have goal2 : (if (i : Int) > 0 then (if 0 ≤ (wrap64 ((i : Int) - 1)) then (if (wrap64 ((i : Int) - 1)) < (l.length : Int) then (if ((Op.bytesLess (((rd_T134 l (wrap64 ((i : Int) - 1))).f0).toList) (((rd_T134 l (i : Int)).f0).toList)) = true) then (impl_EditsOK.l0 k l l (l.length : Int) ((i + 1 : Nat) : Int)) else (some false)) else (none)) else (none)) else (impl_EditsOK.l0 k l l (l.length : Int) ((i + 1 : Nat) : Int))) = impl_EditsOK.l0 k l l (l.length : Int) ((i + 1 : Nat) : Int) := by
      rcases Nat.eq_zero_or_pos i with h0 | h0
      · subst h0
        simp
      · have c3 : (i : Int) > 0 := by omega
        have w1 := wrap_1 c2 (by omega)
        have c4 : (0 : Int) ≤ (i : Int) - 1 := by omega
        have c5 : (i : Int) - 1 < (l.length : Int) := by omega
        rcases h3 with h3 | h3
        · omega
        · have h3' : Op.bytesLess (rd_T134 l ((i : Int) - 1)).f0.toList (rd_T134 l (i : Int)).f0.toList = true := h3
          simp only [c3, w1, c4, c5, h3', if_true]
    cases h5 : (rd_T134 l (i : Int)).f2 with
    | true =>
      rw [h5] at h4
      have h6 : (rd_T134 l (i : Int)).f1 = 0 := by simpa using h4
      simp only [if_true, h6]
      exact goal2
    | false =>
      simp only [Bool.false_eq_true, if_false]
      exact goal2
  · intro i hi hb hp
    refine ⟨1, fun k => ?_⟩
    have c1 : (i : Int) < (l.length : Int) := by omega
    have c2 : (0 : Int) ≤ (i : Int) := by omega
    simp only [impl_EditsOK.l0, impl_NameOK.f, isValue_f, c1, c2, if_true, Option.bind_some]
    cases h1 : nameB (rd_T134 l (i : Int)).f0 with
    | false => simp
    | true =>
      cases h2 : inB (rd_T134 l (i : Int)).f1 (-1000000) 1000000 with
      | false => simp
      | true =>
        simp only [if_true]
        have goal2 : (i == 0 || sblt (rd_T134 l ((i : Int) - 1)).f0 (rd_T134 l (i : Int)).f0) = false → (if (i : Int) > 0 then (if 0 ≤ (wrap64 ((i : Int) - 1)) then (if (wrap64 ((i : Int) - 1)) < (l.length : Int) then (if ((Op.bytesLess (((rd_T134 l (wrap64 ((i : Int) - 1))).f0).toList) (((rd_T134 l (i : Int)).f0).toList)) = true) then (impl_EditsOK.l0 k l l (l.length : Int) (wrap64 ((i : Int) + 1))) else (some false)) else (none)) else (none)) else (impl_EditsOK.l0 k l l (l.length : Int) (wrap64 ((i : Int) + 1)))) = some false := by
          intro h3
          simp only [Bool.or_eq_false_iff, beq_eq_false_iff_ne] at h3
          have c3 : (i : Int) > 0 := by omega
          have w1 := wrap_1 c2 (by omega)
          have c4 : (0 : Int) ≤ (i : Int) - 1 := by omega
          have c5 : (i : Int) - 1 < (l.length : Int) := by omega
          have h3' : Op.bytesLess (rd_T134 l ((i : Int) - 1)).f0.toList (rd_T134 l (i : Int)).f0.toList = false := h3.2
          simp only [c3, w1, c4, c5, h3', if_true, Bool.false_eq_true, if_false]
        simp only [edAt, edB, h1, h2, Bool.true_and] at hp
        cases h5 : (rd_T134 l (i : Int)).f2 with
        | true =>
          simp only [if_true]
          by_cases h6 : (rd_T134 l (i : Int)).f1 = 0
          · simp only [h6, if_true]
            refine goal2 ?_
            simpa [h5, h6] using hp
          · simp only [h6, if_false]
        | false =>
          simp only [Bool.false_eq_true, if_false]
          refine goal2 ?_
          simpa [h5] using hp
  · refine Ev.at_ (c := 1) (fun k => ?_)
    simp only [impl_EditsOK.l0]
    rw [if_neg (by omega)]
end Go.Proofs.Ytcpljigliklgcaa.Q
end

section
namespace Go.Proofs.Ytcpljigliklgcaa.Q
open Go.RowKit Go.Proofs.YtcpljigliklgcaaW.PrintWords Go.Proofs.YtcpljigliklgcaaW.PrintLast
set_option linter.unusedVariables false
def cvEntry (x : S125) : S51 := ⟨x.f0, x.f1⟩
theorem toEntryS_ev (l : List S125) (h : l.length ≤ 1048576) : Ev (fun k => laws_toEntryS.f k l) (l.map cvEntry) := by
  refine Ev.congr (f := fun k => laws_toEntryS.l0 k l (List.replicate l.length z51) 0) (fun k => ?_) ?_
  · unfold laws_toEntryS.f
    rw [if_pos (by omega), if_pos (by omega)]
    rfl
  · exact ev_map_loop (L := laws_toEntryS.l0) (g := fun _ x => some (cvEntry x)) (z := z125) (fun _ _ _ _ => rfl) l (by omega) (fun x _ => Ev.now _) _ (by simp)
theorem eqEntry_refl (x : S51) : laws_eqEntry.f x.f0 x.f1 x.f0 x.f1 = some true := by
  unfold laws_eqEntry.f
  simp
theorem eqEntryS_ev (l : List S51) (h : l.length ≤ 1048576) : Ev (fun k => laws_eqEntryS.f k l l) true := by
  refine Ev.congr (f := fun k => laws_eqEntryS.l0 k l l 0) (fun k => ?_) ?_
  · unfold laws_eqEntryS.f
    rw [if_pos rfl]
  · exact ev_refl_loop (L := laws_eqEntryS.l0) (g := fun _ x y => laws_eqEntry.f x.f0 x.f1 y.f0 y.f1) (z := z51) (fun _ _ _ _ => rfl) l (by omega) (fun x _ => Ev.congr (fun _ => eqEntry_refl x) (Ev.now _))
theorem szEntryS_ev (l : List S125) (hl : l.length ≤ 9223372036854775807) (hg : ∀ x, x ∈ l → good125 x) (left : Int) (h0 : 0 ≤ left) (h1 : left ≤ 1048576) :
    ∃ r, Ev (fun k => laws_szEntryS.f k l left) r ∧ r ≤ left ∧ (0 ≤ r → l.length ≤ 1048576) := by
  have hw : wrap64 (left - (l.length : Int)) = left - (l.length : Int) := by unfold wrap64; omega
  by_cases hn : left - (l.length : Int) < 0
  · refine ⟨-1, Ev.congr (f := fun _ => some (-1)) (fun k => ?_) (Ev.now _), by omega, by omega⟩
    unfold laws_szEntryS.f
    rw [hw, if_pos hn]
  · obtain ⟨r, hr, hrl⟩ := ev_sz_loop (L := laws_szEntryS.l0) (g := fun _ x left => laws_szEntry.f x.f0 x.f1 left) (z := z125) (fun _ _ _ _ => rfl) l (by omega) (fun x hx left h0 h1 => by
      have hsz : x.f0.size ≤ 9223372036854775807 := (hg x hx).1
      have hw2 : wrap64 (left - (x.f0.size : Int)) = left - (x.f0.size : Int) := by unfold wrap64; omega
      by_cases h2 : left - (x.f0.size : Int) < 0
      · refine ⟨-1, Ev.congr (f := fun _ => some (-1)) (fun k => ?_) (Ev.now _), by omega⟩
        unfold laws_szEntry.f
        rw [hw2, if_pos h2]
      · refine ⟨left - (x.f0.size : Int), Ev.congr (f := fun _ => some (left - (x.f0.size : Int))) (fun k => ?_) (Ev.now _), by omega⟩
        unfold laws_szEntry.f
        rw [hw2, if_neg h2]) (left - (l.length : Int)) (by omega) (by omega)
    refine ⟨r, Ev.congr (f := fun k => laws_szEntryS.l0 k l (left - (l.length : Int)) 0) (fun k => ?_) hr, by omega, by omega⟩
    unfold laws_szEntryS.f
    rw [hw, if_neg hn]
end Go.Proofs.Ytcpljigliklgcaa.Q
end

section
namespace Go.Proofs.Ytcpljigliklgcaa.Q
open Go.RowKit Go.Proofs.YtcpljigliklgcaaW.PrintWords Go.Proofs.YtcpljigliklgcaaW.PrintLast
set_option linter.unusedVariables false
def cvEdit (x : S142) : S134 := ⟨x.f0, x.f1, x.f2⟩
theorem toEditS_ev (l : List S142) (h : l.length ≤ 1048576) : Ev (fun k => laws_toEditS.f k l) (l.map cvEdit) := by
  refine Ev.congr (f := fun k => laws_toEditS.l0 k l (List.replicate l.length z134) 0) (fun k => ?_) ?_
  · unfold laws_toEditS.f
    rw [if_pos (by omega), if_pos (by omega)]
    rfl
  · exact ev_map_loop (L := laws_toEditS.l0) (g := fun _ x => some (cvEdit x)) (z := z142) (fun _ _ _ _ => rfl) l (by omega) (fun x _ => Ev.now _) _ (by simp)
theorem eqEdit_refl (x : S134) : laws_eqEdit.f x.f0 x.f1 x.f2 x.f0 x.f1 x.f2 = some true := by
  unfold laws_eqEdit.f
  simp
theorem eqEditS_ev (l : List S134) (h : l.length ≤ 1048576) : Ev (fun k => laws_eqEditS.f k l l) true := by
  refine Ev.congr (f := fun k => laws_eqEditS.l0 k l l 0) (fun k => ?_) ?_
  · unfold laws_eqEditS.f
    rw [if_pos rfl]
  · exact ev_refl_loop (L := laws_eqEditS.l0) (g := fun _ x y => laws_eqEdit.f x.f0 x.f1 x.f2 y.f0 y.f1 y.f2) (z := z134) (fun _ _ _ _ => rfl) l (by omega) (fun x _ => Ev.congr (fun _ => eqEdit_refl x) (Ev.now _))
theorem szEditS_ev (l : List S142) (hl : l.length ≤ 9223372036854775807) (hg : ∀ x, x ∈ l → good142 x) (left : Int) (h0 : 0 ≤ left) (h1 : left ≤ 1048576) :
    ∃ r, Ev (fun k => laws_szEditS.f k l left) r ∧ r ≤ left ∧ (0 ≤ r → l.length ≤ 1048576) := by
  have hw : wrap64 (left - (l.length : Int)) = left - (l.length : Int) := by unfold wrap64; omega
  by_cases hn : left - (l.length : Int) < 0
  · refine ⟨-1, Ev.congr (f := fun _ => some (-1)) (fun k => ?_) (Ev.now _), by omega, by omega⟩
    unfold laws_szEditS.f
    rw [hw, if_pos hn]
  · obtain ⟨r, hr, hrl⟩ := ev_sz_loop (L := laws_szEditS.l0) (g := fun _ x left => laws_szEdit.f x.f0 x.f1 x.f2 left) (z := z142) (fun _ _ _ _ => rfl) l (by omega) (fun x hx left h0 h1 => by
      have hsz : x.f0.size ≤ 9223372036854775807 := (hg x hx).1
      have hw2 : wrap64 (left - (x.f0.size : Int)) = left - (x.f0.size : Int) := by unfold wrap64; omega
      by_cases h2 : left - (x.f0.size : Int) < 0
      · refine ⟨-1, Ev.congr (f := fun _ => some (-1)) (fun k => ?_) (Ev.now _), by omega⟩
        unfold laws_szEdit.f
        rw [hw2, if_pos h2]
      · refine ⟨left - (x.f0.size : Int), Ev.congr (f := fun _ => some (left - (x.f0.size : Int))) (fun k => ?_) (Ev.now _), by omega⟩
        unfold laws_szEdit.f
        rw [hw2, if_neg h2]) (left - (l.length : Int)) (by omega) (by omega)
    refine ⟨r, Ev.congr (f := fun k => laws_szEditS.l0 k l (left - (l.length : Int)) 0) (fun k => ?_) hr, by omega, by omega⟩
    unfold laws_szEditS.f
    rw [hw, if_neg hn]
end Go.Proofs.Ytcpljigliklgcaa.Q
end

section
namespace Go.Proofs.Ytcpljigliklgcaa.Q
open Go.RowKit Go.Proofs.YtcpljigliklgcaaW.PrintWords Go.Proofs.YtcpljigliklgcaaW.PrintLast
set_option linter.unusedVariables false
set_option linter.unusedSimpArgs false
theorem markText_l0 : ∀ (d : Nat) (n : Int) (s : ByteArray), 0 ≤ n → n ≤ 9223372036854775807 → n < 10 ^ d → s.size + d ≤ 1000 → ∃ r, Ev (fun k => laws_markText.l0 k n s) r := by
  intro d
  induction d with
  | zero =>
    intro n s h0 hn9 h1 hs
    have hn : ¬ n > 0 := by simp at h1; omega
    have hz : 1 + s.size ≤ 9223372036854775807 := by omega
    exact ⟨_, Ev.at_ (c := 1) (fun k => by simp only [laws_markText.l0, hn, if_false, hz, if_true]; rfl)⟩
  | succ d ih =>
    intro n s h0 hn9 h1 hs
    by_cases hn : n > 0
    · have e1 : Int.tdiv n 10 = n / 10 := Int.tdiv_eq_ediv_of_nonneg h0
      have h2 : n / 10 < 10 ^ d := by
        rw [Int.pow_succ] at h1
        omega
      have hw : wrap64 (n / 10) = n / 10 := by unfold wrap64; omega
      have hz : (strOfNums [(wrap64 (48 + (Int.tmod n 10))) % 256]).size = 1 := rfl
      have hz2 : 1 + s.size ≤ 9223372036854775807 := by omega
      obtain ⟨r, hr⟩ := ih (n / 10) (strOfNums [(wrap64 (48 + (Int.tmod n 10))) % 256] ++ s) (by omega) (by omega) h2 (by rw [ByteArray.size_append, hz]; omega)
      refine ⟨r, Ev.step (fun k => ?_) hr⟩
      simp only [laws_markText.l0, hn, if_true, Option.bind_some, hz, hz2, e1, hw]
    · have hz : 1 + s.size ≤ 9223372036854775807 := by omega
      exact ⟨_, Ev.at_ (c := 1) (fun k => by simp only [laws_markText.l0, hn, if_false, hz, if_true]; rfl)⟩
theorem markTexts : ∃ mt : Int → ByteArray, ∀ n, 0 ≤ n → n ≤ 1000000000 → Ev (fun k => laws_markText.f k n) (mt n) := by
  have h : ∀ n : Int, ∃ s, 0 ≤ n → n ≤ 1000000000 → Ev (fun k => laws_markText.f k n) s := by
    intro n
    by_cases h0 : 0 ≤ n ∧ n ≤ 1000000000
    · by_cases h1 : n ≤ 0
      · exact ⟨_, fun _ _ => Ev.at_ (c := 0) (fun k => by unfold laws_markText.f; rw [if_pos h1])⟩
      · obtain ⟨s, hs⟩ := markText_l0 10 n (⟨#[]⟩ : ByteArray) h0.1 (by omega) (by omega) (by decide)
        exact ⟨s, fun _ _ => Ev.congr (fun k => by unfold laws_markText.f; rw [if_neg h1]) hs⟩
    · exact ⟨ByteArray.empty, fun a b => absurd ⟨a, b⟩ h0⟩
  exact ⟨fun n => Classical.choose (h n), fun n => Classical.choose_spec (h n)⟩
theorem ev_mark_loop {α : Type} {L : Nat → List α → Int → Int → Option (Int × List α)} {H : Nat → List α → Int → Int → Option Int} {mk : α → Int → α} {c : Int} (hc : 0 ≤ c)
    (stepL : ∀ (l : List α) (m : Int) (i : Nat) (hi : i < l.length), l.length ≤ 1048576 → 0 ≤ m → m ≤ 900000000 → ∀ r, Ev (fun k => L k (l.set i (mk l[i] m)) (m + c) ((i + 1 : Nat) : Int)) r → Ev (fun k => L k l m (i : Int)) r)
    (stepH : ∀ (l : List α) (m : Int) (i : Nat) (hi : i < l.length) (y : α), l[i] = mk y m → l.length ≤ 1048576 → 0 ≤ m → m ≤ 900000000 → ∀ r, Ev (fun k => H k l (m + c) ((i + 1 : Nat) : Int)) r → Ev (fun k => H k l m (i : Int)) r)
    (doneL : ∀ (l : List α) (m : Int) k, L (k + 1) l m (l.length : Int) = some (m, l)) (doneH : ∀ (l : List α) (m : Int) k, H (k + 1) l m (l.length : Int) = some m)
    (l : List α) (m : Int) (hl : l.length ≤ 1048576) (h0 : 0 ≤ m) (hm : m + c * l.length ≤ 900000000) :
    ∃ l', l'.length = l.length ∧ Ev (fun k => L k l m 0) (m + c * l.length, l') ∧ Ev (fun k => H k l' m 0) (m + c * l.length) := by
  have key : ∀ (d i : Nat) (l : List α) (m : Int), i + d = l.length → l.length ≤ 1048576 → 0 ≤ m → m + c * d ≤ 900000000 →
      ∃ l', l'.length = l.length ∧ l'.take i = l.take i ∧ Ev (fun k => L k l m (i : Int)) (m + c * d, l') ∧ Ev (fun k => H k l' m (i : Int)) (m + c * d) := by
    intro d
    induction d with
    | zero =>
      intro i l m hi hl h0 hm
      obtain rfl : i = l.length := by omega
      refine ⟨l, rfl, rfl, ?_, ?_⟩
      · simp only [Int.natCast_zero, Int.mul_zero, Int.add_zero]
        exact Ev.at_ (c := 1) (doneL l m)
      · simp only [Int.natCast_zero, Int.mul_zero, Int.add_zero]
        exact Ev.at_ (c := 1) (doneH l m)
    | succ d ih =>
      intro i l m hi hl h0 hm
      have hil : i < l.length := by omega
      have e : m + c + c * (d : Int) = m + c * ((d + 1 : Nat) : Int) := by
        rw [Int.natCast_add, Int.natCast_one, Int.mul_add, Int.mul_one]
        omega
      have hcd : 0 ≤ c * (d : Int) := Int.mul_nonneg hc (Int.natCast_nonneg d)
      obtain ⟨l', hl', ht, hL, hH⟩ := ih (i + 1) (l.set i (mk l[i] m)) (m + c) (by rw [List.length_set]; omega) (by rw [List.length_set]; omega) (by omega) (by omega)
      rw [List.length_set] at hl'
      rw [e] at hL hH
      have hg : l'[i]'(by omega) = mk l[i] m := by
        have h1 : (l'.take (i + 1))[i]'(by rw [List.length_take]; omega) = ((l.set i (mk l[i] m)).take (i + 1))[i]'(by rw [List.length_take, List.length_set]; omega) := by simp only [ht]
        simpa using h1
      refine ⟨l', hl', ?_, stepL l m i hil hl h0 (by omega) _ hL, stepH l' m i (by omega) l[i] hg (by omega) h0 (by omega) _ hH⟩
      have h2 := congrArg (List.take i) ht
      rw [List.take_take, List.take_take, Nat.min_eq_left (by omega)] at h2
      rw [h2, List.take_set_of_le (Nat.le_refl _)]
  obtain ⟨l', h1, _, h3, h4⟩ := key l.length 0 l m (by omega) hl h0 hm
  exact ⟨l', h1, h3, h4⟩
end Go.Proofs.Ytcpljigliklgcaa.Q
end

section
namespace Go.Proofs.Ytcpljigliklgcaa.Q
open Go.RowKit Go.Proofs.YtcpljigliklgcaaW.PrintWords Go.Proofs.YtcpljigliklgcaaW.PrintLast
set_option linter.unusedVariables false
set_option linter.unusedSimpArgs false
theorem markEntryS_ev (l : List S51) (m : Int) (hl : l.length ≤ 1048576) (h0 : 0 ≤ m) (hm : m + 2 * l.length ≤ 900000000) :
    ∃ l', l'.length = l.length ∧ Ev (fun k => laws_markEntryS.f k l m) (m + 2 * l.length, l') ∧ Ev (fun k => laws_heldEntryS.f k l' m) (m + 2 * l.length) := by
  obtain ⟨mt, hmt⟩ := markTexts
  have rd0 : ∀ (l : List S51) (i : Nat) (h : i < l.length), rd_T51 l (i : Int) = l[i] := fun l i h => by simp [rd_T51, List.getD_eq_getElem?_getD, List.getElem?_eq_getElem h]
  have rd1 : ∀ (l : List S51) (i : Nat) (v : S51) (h : i < l.length), rd_T51 (l.set i v) (i : Int) = v := fun l i v h => by rw [rd0 _ _ (by rw [List.length_set]; exact h)]; simp
  refine ev_mark_loop (L := laws_markEntryS.l0) (H := laws_heldEntryS.l0) (mk := fun x m => ⟨mt (m), m + 1⟩) (c := 2) (by omega) ?_ ?_ ?_ ?_ l m hl h0 hm
  · intro l m i hi hl h0 hm r hr
    have c1 : (i : Int) < (l.length : Int) := by omega
    have w := wrap_i (show i < 4611686018427387904 by omega)
    have w1 : wrap64 (m + 1) = m + 1 := by unfold wrap64; omega
    have w2 : wrap64 (m + 1 + 1) = m + 2 := by unfold wrap64; omega
    refine Ev.succ (g := fun k => laws_markEntryS.l0 k l m (i : Int)) ?_
    simp only [laws_markEntryS.l0, c1, if_true, Int.natCast_nonneg, Option.bind_some, Int.toNat_natCast, rd0 l i hi, rd1 l i _ hi, List.set_set, w, w1, w2]
    refine Ev.bind (hmt (m) (by omega) (by omega)) ?_
    (try simp only [if_true, rd0 l i hi, rd1 l i _ hi, List.set_set, Option.bind_some, w1, w2, bne_self_eq_false, Bool.false_eq_true, if_false])
    exact hr
  · intro l m i hi y hy hl h0 hm r hr
    have c1 : (i : Int) < (l.length : Int) := by omega
    have w := wrap_i (show i < 4611686018427387904 by omega)
    have w1 : wrap64 (m + 1) = m + 1 := by unfold wrap64; omega
    have w2 : wrap64 (m + 1 + 1) = m + 2 := by unfold wrap64; omega
    refine Ev.succ (g := fun k => laws_heldEntryS.l0 k l m (i : Int)) ?_
    simp only [laws_heldEntryS.l0, c1, if_true, Int.natCast_nonneg, rd0 l i hi, hy, w, w1, w2, bne_self_eq_false, Bool.false_eq_true, if_false]
    refine Ev.bind (hmt (m) (by omega) (by omega)) ?_
    (try simp only [if_true, rd0 l i hi, rd1 l i _ hi, List.set_set, Option.bind_some, w1, w2, bne_self_eq_false, Bool.false_eq_true, if_false])
    exact hr
  · intro l m k
    simp only [laws_markEntryS.l0]
    rw [if_neg (by omega)]
  · intro l m k
    simp only [laws_heldEntryS.l0]
    rw [if_neg (by omega)]
end Go.Proofs.Ytcpljigliklgcaa.Q
end

section
namespace Go.Proofs.Ytcpljigliklgcaa.Q
open Go.RowKit Go.Proofs.YtcpljigliklgcaaW.PrintWords Go.Proofs.YtcpljigliklgcaaW.PrintLast
set_option linter.unusedVariables false
set_option linter.unusedSimpArgs false
theorem markEdit1_ev (l : List S134) (m : Int) (hl : l.length ≤ 1048576) (h0 : 0 ≤ m) (hm : m + 3 * l.length ≤ 900000000) :
    ∃ l', l'.length = l.length ∧ Ev (fun k => laws_markEditS.f k l m) (m + 3 * l.length, l') := by
  suffices h : ∃ l', l'.length = l.length ∧ Ev (fun k => laws_markEditS.f k l m) (m + 3 * l.length, l') ∧ Ev (fun k => some (m + 3 * ((l'.length : Int) - 0))) (m + 3 * l.length) by
    obtain ⟨l', h1, h2, _⟩ := h
    exact ⟨l', h1, h2⟩
  obtain ⟨mt, hmt⟩ := markTexts
  have rd0 : ∀ (l : List S134) (i : Nat) (h : i < l.length), rd_T134 l (i : Int) = l[i] := fun l i h => by simp [rd_T134, List.getD_eq_getElem?_getD, List.getElem?_eq_getElem h]
  have rd1 : ∀ (l : List S134) (i : Nat) (v : S134) (h : i < l.length), rd_T134 (l.set i v) (i : Int) = v := fun l i v h => by rw [rd0 _ _ (by rw [List.length_set]; exact h)]; simp
  refine ev_mark_loop (L := laws_markEditS.l0) (H := fun _ (l : List S134) m i => some (m + 3 * ((l.length : Int) - i))) (mk := fun x m => ⟨mt (m), m + 1, (Int.tmod (m + 2) 3 == 0)⟩) (c := 3) (by omega) ?_ ?_ ?_ ?_ l m hl h0 hm
  · intro l m i hi hl h0 hm r hr
    have c1 : (i : Int) < (l.length : Int) := by omega
    have w := wrap_i (show i < 4611686018427387904 by omega)
    have w1 : wrap64 (m + 1) = m + 1 := by unfold wrap64; omega
    have w2 : wrap64 (m + 1 + 1) = m + 2 := by unfold wrap64; omega
    have w3 : wrap64 (m + 2 + 1) = m + 3 := by unfold wrap64; omega
    refine Ev.succ (g := fun k => laws_markEditS.l0 k l m (i : Int)) ?_
    simp only [laws_markEditS.l0, c1, if_true, Int.natCast_nonneg, Option.bind_some, Int.toNat_natCast, rd0 l i hi, rd1 l i _ hi, List.set_set, w, w1, w2, w3]
    refine Ev.bind (hmt (m) (by omega) (by omega)) ?_
    (try simp only [if_true, rd0 l i hi, rd1 l i _ hi, List.set_set, Option.bind_some, w1, w2, w3, bne_self_eq_false, Bool.false_eq_true, if_false])
    exact hr
  · intro l m i hi y hy hl h0 hm r hr
    exact Ev.congr (fun k => by congr 1; omega) hr
  · intro l m k
    simp only [laws_markEditS.l0]
    rw [if_neg (by omega)]
  · intro l m k
    congr 1
    omega
end Go.Proofs.Ytcpljigliklgcaa.Q
end

section
namespace Go.Proofs.Ytcpljigliklgcaa.Pure
open Go.RowKit Go.Proofs.Ytcpljigliklgcaa.Q Go.Proofs.YtcpljigliklgcaaW.PrintWords Go.Proofs.YtcpljigliklgcaaW.PrintLast
set_option linter.unusedVariables false
set_option linter.unusedSimpArgs false
theorem l01Apply_loop (ed : List S134) (hed : ed.length ≤ 900000) : ∀ (d i : Nat) (l : List S51), i + d = ed.length → RiseP l → l.length + d ≤ 1000000 → Ev (fun k => spec_l01Apply.l0 k l ed (i : Int)) ((ed.drop i).foldl edit1 l) := by
  intro d
  induction d with
  | zero =>
    intro i l hi hr hl
    rw [List.drop_of_length_le (by omega)]
    refine Ev.at_ (c := 1) (fun k => ?_)
    simp only [spec_l01Apply.l0]
    rw [if_neg (by omega)]
    rfl
  | succ d ih =>
    intro i l hi hr hl
    have hil : i < ed.length := by omega
    have c1 : (i : Int) < (ed.length : Int) := by omega
    have e1 : rd_T134 ed (i : Int) = ed[i] := by simp [rd_T134, List.getD_eq_getElem?_getD, List.getElem?_eq_getElem hil]
    have hn := ih (i + 1) (edit1 l ed[i]) (by omega) (edit1_rise hr _) (by have := edit1_len l ed[i]; omega)
    rw [List.drop_eq_getElem_cons hil, List.foldl_cons]
    refine Ev.succ ?_
    simp only [spec_l01Apply.l0, c1, Int.natCast_nonneg, if_true, e1, wrap_i (show i < 4611686018427387904 by omega)]
    cases hg : ed[i].f2 with
    | true =>
      have he : edit1 l ed[i] = remL l ed[i].f0 := by unfold edit1; rw [if_pos hg]
      simp only [if_true]
      rw [he] at hn
      rw [he]
      exact Ev.bind (l01Remove_ev hr _ (by omega)) hn
    | false =>
      have he : edit1 l ed[i] = putL l ed[i].f0 ed[i].f1 := by unfold edit1; rw [if_neg (by simp [hg])]
      simp only [Bool.false_eq_true, if_false]
      rw [he] at hn
      rw [he]
      exact Ev.bind (l01Put_ev hr _ _ (by omega)) hn
theorem l01Apply_ev {l : List S51} (ed : List S134) (hr : RiseP l) (hl : l.length + ed.length ≤ 900000) : Ev (fun k => spec_l01Apply.f k l ed) (ed.foldl edit1 l) := by
  unfold spec_l01Apply.f
  simp only [Option.bind_some, List.length_nil, Nat.zero_add, List.nil_append, (show l.length < 5864062014805 by omega), if_true]
  have h := l01Apply_loop ed (by omega) ed.length 0 l (by omega) hr (by omega)
  rw [List.drop_zero] at h
  exact h
theorem apply_both (l : List S51) (ed : List S134) (hl : l.length ≤ 1048576) (hd : ed.length ≤ 1048576) : ∃ res code, Ev (fun k => spec_ApplyEdits.f k l ed) (res, code) ∧ Ev (fun k => impl_ApplyEdits.f k l ed) (res, code) ∧ res.length ≤ 1048576 := by
  unfold spec_ApplyEdits.f impl_ApplyEdits.f impl_Entry_100.f impl_Edit_101.f
  by_cases h1 : (l.length : Int) > 4096
  · have h1' : ¬ (l.length : Int) ≤ 4096 := by omega
    simp only [h1, h1', if_true, decide_false, Option.bind_some, Bool.false_eq_true, if_false]
    exact ⟨[], 2, Ev.at_ (c := 1) (fun k => by simp only [spec_ApplyEdits.j0, if_true]), Ev.at_ (c := 1) (fun k => by simp only [impl_ApplyEdits.j0, if_true]), by simp⟩
  have h1' : (l.length : Int) ≤ 4096 := by omega
  by_cases h2 : (ed.length : Int) > 4096
  · have h2' : ¬ (ed.length : Int) ≤ 4096 := by omega
    simp only [h1, h1', h2, h2', if_true, decide_false, decide_true, Option.bind_some, Bool.not_false, if_false]
    exact ⟨[], 2, Ev.at_ (c := 1) (fun k => by simp only [spec_ApplyEdits.j0, if_true]), Ev.at_ (c := 1) (fun k => by simp only [impl_ApplyEdits.j0, if_true]), by simp⟩
  have h2' : (ed.length : Int) ≤ 4096 := by omega
  simp only [h1, h1', h2, h2', if_true, decide_false, decide_true, Option.bind_some, Bool.not_true, if_false]
  have hS : ∀ r, Ev (fun k => spec_ApplyEdits.j1 k l ed (!(mapB l && editsB ed))) r → Ev (fun k => spec_ApplyEdits.j0 k l ed false) r := fun r h => by
    refine Ev.succ ?_
    simp only [spec_ApplyEdits.j0, Bool.false_eq_true, if_false, spec_l01OK.f, spec_l01Edits.f, Option.bind_some]
    cases hm : mapB l with
    | true => rw [hm, Bool.true_and] at h; simp only [if_true]; exact h
    | false => rw [hm, Bool.false_and, Bool.not_false] at h; simp only [Bool.false_eq_true, if_false]; exact h
  have hI : ∀ r, Ev (fun k => impl_ApplyEdits.j1 k l ed (!(mapB l && editsB ed))) r → Ev (fun k => impl_ApplyEdits.j0 k l ed false) r := fun r h => by
    refine Ev.succ ?_
    simp only [impl_ApplyEdits.j0, Bool.false_eq_true, if_false]
    refine Ev.bind (mapOK_ev l (by omega)) ?_
    cases hm : mapB l with
    | true =>
      rw [hm, Bool.true_and] at h
      simp only [if_true]
      exact Ev.bind (editsOK_ev ed hd) h
    | false => rw [hm, Bool.false_and, Bool.not_false] at h; simp only [Bool.false_eq_true, if_false]; exact h
  cases hb : (mapB l && editsB ed) with
  | false =>
    rw [hb] at hS hI
    exact ⟨[], 1, hS _ (Ev.at_ (c := 1) (fun k => by simp only [spec_ApplyEdits.j1, Bool.not_false, if_true])), hI _ (Ev.at_ (c := 1) (fun k => by simp only [impl_ApplyEdits.j1, Bool.not_false, if_true])), by simp⟩
  | true =>
    rw [hb] at hS hI
    have hm : mapB l = true := by simp only [Bool.and_eq_true] at hb; exact hb.1
    have hri := mapB_rise hm
    have gS := l01Apply_ev ed hri (by omega)
    have gI := edited_ev ed hri (by omega)
    have hlen := edits_len ed l
    by_cases h13 : ((ed.foldl edit1 l).length : Int) > 12
    · refine ⟨[], 7, hS _ (Ev.succ ?_), hI _ (Ev.succ ?_), by simp⟩
      · simp only [spec_ApplyEdits.j1, Bool.not_true, Bool.false_eq_true, if_false]
        refine Ev.bind gS ?_
        simp only [h13, if_true]
        exact Ev.now _
      · simp only [impl_ApplyEdits.j1, Bool.not_true, Bool.false_eq_true, if_false]
        refine Ev.bind gI ?_
        simp only [impl_limited.f, h13, if_true, Option.bind_some]
        exact Ev.now _
    · refine ⟨ed.foldl edit1 l, 0, hS _ (Ev.succ ?_), hI _ (Ev.succ ?_), by omega⟩
      · simp only [spec_ApplyEdits.j1, Bool.not_true, Bool.false_eq_true, if_false]
        refine Ev.bind gS ?_
        simp only [h13, if_false]
        exact Ev.now _
      · simp only [impl_ApplyEdits.j1, Bool.not_true, Bool.false_eq_true, if_false]
        refine Ev.bind gI ?_
        simp only [impl_limited.f, h13, if_false, Option.bind_some]
        exact Ev.now _
theorem FnExactApplyEdits : laws_FnExactApplyEdits.Pure := by
  intro l0 l1 w0 w1
  refine Ev.rounds ?_
  unfold laws_FnExactApplyEdits.f
  obtain ⟨r, hr, hrl, hrs⟩ := szEntryS_ev l0 w0.1 w0.2 1048576 (by omega) (by omega)
  refine Ev.bind hr ?_
  by_cases hn : r < 0
  · simp only [hn, if_true]
    exact Ev.now _
  simp only [hn, if_false]
  obtain ⟨r2, hr2, hrl2, hrs2⟩ := szEditS_ev l1 w1.1 w1.2 r (by omega) (by omega)
  refine Ev.bind hr2 ?_
  by_cases hn2 : r2 < 0
  · simp only [hn2, if_true]
    exact Ev.now _
  simp only [hn2, if_false]
  have hl := hrs (by omega)
  have hd := hrs2 (by omega)
  have ht := toEntryS_ev l0 hl
  have hu := toEditS_ev l1 hd
  have hl2 : (l0.map cvEntry).length ≤ 1048576 := by simpa using hl
  have hd2 : (l1.map cvEdit).length ≤ 1048576 := by simpa using hd
  obtain ⟨res, code, hs, hi, hres⟩ := apply_both (l0.map cvEntry) (l1.map cvEdit) hl2 hd2
  refine Ev.bind ht (Ev.bind hu (Ev.bind hs (Ev.bind ht (Ev.bind hu (Ev.bind hi (Ev.bind (eqEntryS_ev res hres) ?_))))))
  simp only [if_true, bne_self_eq_false]
  refine Ev.succ ?_
  simp only [laws_FnExactApplyEdits.j0, Bool.false_eq_true, if_false]
  refine Ev.bind ht (Ev.bind (eqEntryS_ev _ hl2) ?_)
  simp only [if_true]
  refine Ev.bind hu (Ev.bind (eqEditS_ev _ hd2) ?_)
  simp only [if_true]
  obtain ⟨la, _, hmA, _⟩ := markEntryS_ev (l0.map cvEntry) 1 hl2 (by omega) (by omega)
  refine Ev.bind hmA ?_
  simp only []
  obtain ⟨lb, _, hmB⟩ := markEdit1_ev (l1.map cvEdit) (1 + 2 * ((l0.map cvEntry).length : Int)) hd2 (by omega) (by omega)
  refine Ev.bind hmB ?_
  have n1 : ¬ (1 + 2 * ((l0.map cvEntry).length : Int) + 3 * ((l1.map cvEdit).length : Int) < 0) := by omega
  simp only [n1, if_false]
  refine Ev.bind (eqEntryS_ev res hres) ?_
  simp only [if_true, bne_self_eq_false]
  refine Ev.succ ?_
  simp only [laws_FnExactApplyEdits.j1, Bool.false_eq_true, if_false]
  obtain ⟨lr, _, hmR, hhR⟩ := markEntryS_ev res 1 hres (by omega) (by omega)
  have n2 : ¬ (1 + 2 * (res.length : Int) < 0) := by omega
  refine Ev.bind hmR (Ev.bind hhR ?_)
  simp only [n2, if_false, if_true]
  refine Ev.bind ht (Ev.bind hu (Ev.bind hi (Ev.bind (eqEntryS_ev res hres) ?_)))
  simp only [if_true, bne_self_eq_false]
  refine Ev.succ ?_
  simp only [laws_FnExactApplyEdits.j2, Bool.false_eq_true, if_false]
  refine Ev.bind hhR ?_
  simp only [n2, if_false, if_true]
  exact Ev.now _
end Go.Proofs.Ytcpljigliklgcaa.Pure
end
