/- For every input the law FnExactSameMoment of the given program returns true, and its arguments read afterwards as they read before; there are no conditions. -/
import Derived.Test.YtcpljigliklgcaaRows
import Derived.Test.YtcpljigliklgcaaMFnExactSameMoment7
import Derived.Test.YtcpljigliklgcaaStart
import Derived.WalkKit
import Derived.ProofKit
import Derived.OpenShut
import Derived.ShutString
import Derived.ChangeOld
import Derived.Below
import Derived.SizedLaws
namespace Go.Proofs.Ytcpljigliklgcaa.fnExactSameMoment
open Go.ChangeShapes Go.WideShapes Go.ChangeAt Go.RowKit
open Go.ChangeMaps (open_string shut_string)
set_option linter.unusedVariables false
theorem own : ownKnob Try.prog.godebug = none := by kernel_rfl
theorem laidOut : laidOutB Try.prog = true := by kernel_rfl
set_option maxRecDepth 100000 in
theorem lifted (os : Os) (started : os.Started) (H : Type) (enc : TypeId × Value → H) :
    ReturnsInHanded {} Try.checked os 11 .any (Rows.fnExactSameMomentSpec.pre6 enc Try.prog Try.f11 Rows.fnExactSameMomentRow.domain false) (Rows.fnExactSameMomentSpec.post enc Try.prog Try.f11 false true false false) := by
  refine returnsInHanded_of_change_sized (C := Try.checked) own started (by kernel_rfl) Try.func11
    (ChangeSpec.witness6 (enc := enc) (C := Try.checked) false ⟨#[], #[.agg #[.int .i64 0, .int .i64 0, .int .i64 0, .int .i64 0, .int .i64 0, .string ByteArray.empty, .string ByteArray.empty, .slice none 0 0, .int .i64 0, .int .i64 0, .int .i64 0, .slice none 0 0, .slice none 0 0], .agg #[.int .i64 0, .int .i64 0, .int .i64 0, .int .i64 0, .int .i64 0, .string ByteArray.empty, .string ByteArray.empty, .slice none 0 0, .int .i64 0, .int .i64 0, .int .i64 0, .slice none 0 0, .slice none 0 0]], []⟩ 8 (by kernel_rfl) (by kernel_rfl) (by kernel_rfl) (by kernel_rfl)) ?_
  intro W base args ds gs before hval0 hW hcnd hsz0 _
  have hsz : (DataW.weightsEach Try.prog (Try.f11.params.toList ++ Rows.fnExactSameMomentSpec.plain.varTypes Try.prog) (ds ++ gs)).all (· ≤ reachBytes) = true := hsz0
  have hval : ∀ (j : Nat) t v, Try.f11.params[j]? = some t → args[j]? = some v → Value.okWide Try.prog W .any base t v := hval0
  have hW' := hW
  obtain ⟨p, q, hA0, hV, rfl, hfz, hnd⟩ := hW
  have hA : DataW.TrodAll enc Try.prog W 0 (fun _ => true) true Try.f11.params.toList args.toList ds p := hA0
  rw [Try.params11] at hA hval hsz
  obtain ⟨v0, vs0, d0, ds0, p0, q0, hargs, rfl, rfl, h0, r0⟩ := trodAll_cons hA
  obtain ⟨v1, vs1, d1, ds1, p1, q1, rfl, rfl, rfl, h1, r1⟩ := trodAll_cons r0
  obtain ⟨rfl, rfl, rfl⟩ := trodAll_nil r1
  obtain rfl : args = #[v0, v1] := by cases args; simp_all
  obtain ⟨rfl, rfl⟩ := trodVars_none hV
  obtain ⟨cs0, rfl, _⟩ := okWide_struct Try.underlying83 (hval 0 83 v0 rfl rfl)
  have k0 := h0
  have lt0 : ∀ x ∈ p0, x.block < W.heap.size := by obtain ⟨m, hm⟩ := k0; exact DataW.trod_lt m _ _ _ hm
  obtain ⟨fuel0, hf0⟩ := h0
  obtain ⟨y0, hK0, w0⟩ := Q.opens_83.2 enc W _ _ _ fuel0 _ _ hf0
  obtain ⟨A0_7, c0_7, A0_11, c0_11, A0_12, c0_12, he0, hc0_7, hr0_7, hc0_11, hr0_11, hc0_12, hr0_12⟩ := Q.k83_open hK0
  obtain rfl : cs0 = #[.int .i64 y0.f0, .int .i64 y0.f1, .int .i64 y0.f2, .int .i64 y0.f3.f0, .int .i64 y0.f3.f1, .string y0.f3.f2, .string y0.f3.f3, .slice A0_7 y0.f3.f4.length c0_7, .int .i64 y0.f4.f0, .int .i64 y0.f4.f1, .int .i64 y0.f4.f2, .slice A0_11 y0.f4.f3.length c0_11, .slice A0_12 y0.f4.f4.length c0_12] := by apply Array.ext'; exact he0
  obtain ⟨cs1, rfl, _⟩ := okWide_struct Try.underlying83 (hval 1 83 v1 rfl rfl)
  have k1 := h1
  have lt1 : ∀ x ∈ p1, x.block < W.heap.size := by obtain ⟨m, hm⟩ := k1; exact DataW.trod_lt m _ _ _ hm
  obtain ⟨fuel1, hf1⟩ := h1
  obtain ⟨y1, hK1, w1⟩ := Q.opens_83.2 enc W _ _ _ fuel1 _ _ hf1
  obtain ⟨A1_7, c1_7, A1_11, c1_11, A1_12, c1_12, he1, hc1_7, hr1_7, hc1_11, hr1_11, hc1_12, hr1_12⟩ := Q.k83_open hK1
  obtain rfl : cs1 = #[.int .i64 y1.f0, .int .i64 y1.f1, .int .i64 y1.f2, .int .i64 y1.f3.f0, .int .i64 y1.f3.f1, .string y1.f3.f2, .string y1.f3.f3, .slice A1_7 y1.f3.f4.length c1_7, .int .i64 y1.f4.f0, .int .i64 y1.f4.f1, .int .i64 y1.f4.f2, .slice A1_11 y1.f4.f3.length c1_11, .slice A1_12 y1.f4.f4.length c1_12] := by apply Array.ext'; exact he1
  clear hA0 hval0 hsz0 hsz
  refine (Q.laws_FnExactSameMoment.walk Pure.FnExactSameMoment y0.f0 y0.f1 y0.f2 y0.f3.f0 y0.f3.f1 y0.f3.f2 y0.f3.f3 A0_7 c0_7 y0.f3.f4 y0.f4.f0 y0.f4.f1 y0.f4.f2 A0_11 c0_11 y0.f4.f3 A0_12 c0_12 y0.f4.f4 y1.f0 y1.f1 y1.f2 y1.f3.f0 y1.f3.f1 y1.f3.f2 y1.f3.f3 A1_7 c1_7 y1.f3.f4 y1.f4.f0 y1.f4.f1 y1.f4.f2 A1_11 c1_11 y1.f4.f3 A1_12 c1_12 y1.f4.f4 W w0 w1 hr0_7 hc0_7 hr0_11 hc0_11 hr0_12 hc0_12 hr1_7 hc1_7 hr1_11 hc1_11 hr1_12 hc1_12).mono fun e W' ⟨he, bel⟩ => ?_
  subst he
  exact ⟨_, rfl, _, _, _, [], _, [], hW', trodAll_mk1 (shut_bool Try.underlying4 _), (trodAll_cons_mk (Below.trod laidOut (by kernel_rfl) (of_decide_eq_true (by kernel_rfl)) k0 bel lt0) (trodAll_cons_mk (Below.trod laidOut (by kernel_rfl) (of_decide_eq_true (by kernel_rfl)) k1 bel lt1) trodAll_mk0)), rfl, bel.frame _, fun h => by cases h⟩
set_option maxHeartbeats 4000000 in
theorem closed_ : joinedFacts Try.prog 11 Try.f11 Rows.fnExactSameMomentSpec Rows.fnExactSameMomentRow = true := by
  unfold joinedFacts
  simp only [Bool.and_eq_true]
  repeat' apply And.intro
  all_goals first | (with_reducible exact Start.enters_ok) | (rw [Start.lifts_no]; kernel_rfl) | (rw [Start.make_is]; kernel_rfl) | (as_aux_lemma => kernel_rfl)
theorem over : Rows.fnExactSameMomentRow.holds Try.pinned (OpenSpec.ofChange Rows.fnExactSameMomentSpec) :=
  OpenClaim.holds_of_wide 11 Try.f11 rfl rfl rfl rfl rfl rfl rfl ⟨rfl, rfl, rfl, rfl, rfl⟩ rfl rfl rfl rfl rfl (by kernel_rfl) Try.func11 closed_
    (of_decide_eq_true (by kernel_rfl)) (by unfold Func.isWrapper; first | (rw [if_pos (by decide +kernel)]; kernel_rfl) | (rw [if_neg (by decide +kernel)]; exact ⟨rfl, rfl⟩))
    (fun os started H enc _ => lifted os started H enc)
theorem proved : Rows.FnExactSameMomentSaid := over
end Go.Proofs.Ytcpljigliklgcaa.fnExactSameMoment
namespace Go.Proofs.Ytcpljigliklgcaa
/-- The row, under a short name, for the claim. -/
theorem fnExactSameMoment_holds : Rows.FnExactSameMomentSaid := fnExactSameMoment.proved
end Go.Proofs.Ytcpljigliklgcaa
