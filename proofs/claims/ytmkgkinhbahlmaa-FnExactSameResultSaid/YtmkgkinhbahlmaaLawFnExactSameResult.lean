/- For every input the law FnExactSameResult of the given program returns true, and its arguments read afterwards as they read before; there are no conditions. -/
import Derived.Test.YtmkgkinhbahlmaaRows
import Derived.Test.YtmkgkinhbahlmaaMFnExactSameResult3
import Derived.Test.YtmkgkinhbahlmaaStart
import Derived.WalkKit
import Derived.ProofKit
import Derived.OpenShut
import Derived.ShutString
import Derived.ChangeOld
import Derived.Below
import Derived.SizedLaws
namespace Go.Proofs.Ytmkgkinhbahlmaa.fnExactSameResult
open Go.ChangeShapes Go.WideShapes Go.ChangeAt Go.RowKit
open Go.ChangeMaps (open_string shut_string)
set_option linter.unusedVariables false
theorem own : ownKnob Try.prog.godebug = none := by kernel_rfl
theorem laidOut : laidOutB Try.prog = true := by kernel_rfl
set_option maxRecDepth 100000 in
theorem lifted (os : Os) (started : os.Started) (H : Type) (enc : TypeId × Value → H) :
    ReturnsInHanded {} Try.checked os 16 .any (Rows.fnExactSameResultSpec.pre6 enc Try.prog Try.f16 Rows.fnExactSameResultRow.domain false) (Rows.fnExactSameResultSpec.post enc Try.prog Try.f16 false true false false) := by
  refine returnsInHanded_of_change_sized (C := Try.checked) own started (by kernel_rfl) Try.func16
    (ChangeSpec.witness6 (enc := enc) (C := Try.checked) false ⟨#[], #[.agg #[.int .i64 0, .int .i64 0, .int .i64 0, .slice none 0 0, .slice none 0 0], .agg #[.int .i64 0, .int .i64 0, .int .i64 0, .slice none 0 0, .slice none 0 0]], []⟩ 8 (by kernel_rfl) (by kernel_rfl) (by kernel_rfl) (by kernel_rfl)) ?_
  intro W base args ds gs before hval0 hW hcnd hsz0 _
  have hsz : (DataW.weightsEach Try.prog (Try.f16.params.toList ++ Rows.fnExactSameResultSpec.plain.varTypes Try.prog) (ds ++ gs)).all (· ≤ reachBytes) = true := hsz0
  have hval : ∀ (j : Nat) t v, Try.f16.params[j]? = some t → args[j]? = some v → Value.okWide Try.prog W .any base t v := hval0
  have hW' := hW
  obtain ⟨p, q, hA0, hV, rfl, hfz, hnd⟩ := hW
  have hA : DataW.TrodAll enc Try.prog W 0 (fun _ => true) true Try.f16.params.toList args.toList ds p := hA0
  rw [Try.params16] at hA hval hsz
  obtain ⟨v0, vs0, d0, ds0, p0, q0, hargs, rfl, rfl, h0, r0⟩ := trodAll_cons hA
  obtain ⟨v1, vs1, d1, ds1, p1, q1, rfl, rfl, rfl, h1, r1⟩ := trodAll_cons r0
  obtain ⟨rfl, rfl, rfl⟩ := trodAll_nil r1
  obtain rfl : args = #[v0, v1] := by cases args; simp_all
  obtain ⟨rfl, rfl⟩ := trodVars_none hV
  obtain ⟨cs0, rfl, _⟩ := okWide_struct Try.underlying95 (hval 0 95 v0 rfl rfl)
  have k0 := h0
  have lt0 : ∀ x ∈ p0, x.block < W.heap.size := by obtain ⟨m, hm⟩ := k0; exact DataW.trod_lt m _ _ _ hm
  obtain ⟨fuel0, hf0⟩ := h0
  obtain ⟨y0, hK0, w0⟩ := Q.opens_95.2 enc W _ _ _ fuel0 _ _ hf0
  obtain ⟨A0_3, c0_3, A0_4, c0_4, he0, hc0_3, hr0_3, hc0_4, hr0_4⟩ := Q.k95_open hK0
  obtain rfl : cs0 = #[.int .i64 y0.f0, .int .i64 y0.f1, .int .i64 y0.f2, .slice A0_3 y0.f3.length c0_3, .slice A0_4 y0.f4.length c0_4] := by apply Array.ext'; exact he0
  obtain ⟨cs1, rfl, _⟩ := okWide_struct Try.underlying95 (hval 1 95 v1 rfl rfl)
  have k1 := h1
  have lt1 : ∀ x ∈ p1, x.block < W.heap.size := by obtain ⟨m, hm⟩ := k1; exact DataW.trod_lt m _ _ _ hm
  obtain ⟨fuel1, hf1⟩ := h1
  obtain ⟨y1, hK1, w1⟩ := Q.opens_95.2 enc W _ _ _ fuel1 _ _ hf1
  obtain ⟨A1_3, c1_3, A1_4, c1_4, he1, hc1_3, hr1_3, hc1_4, hr1_4⟩ := Q.k95_open hK1
  obtain rfl : cs1 = #[.int .i64 y1.f0, .int .i64 y1.f1, .int .i64 y1.f2, .slice A1_3 y1.f3.length c1_3, .slice A1_4 y1.f4.length c1_4] := by apply Array.ext'; exact he1
  clear hA0 hval0 hsz0 hsz
  refine (Q.laws_FnExactSameResult.walk Pure.FnExactSameResult y0.f0 y0.f1 y0.f2 A0_3 c0_3 y0.f3 A0_4 c0_4 y0.f4 y1.f0 y1.f1 y1.f2 A1_3 c1_3 y1.f3 A1_4 c1_4 y1.f4 W w0 w1 hr0_3 hc0_3 hr0_4 hc0_4 hr1_3 hc1_3 hr1_4 hc1_4).mono fun e W' ⟨he, bel⟩ => ?_
  subst he
  exact ⟨_, rfl, _, _, _, [], _, [], hW', trodAll_mk1 (shut_bool Try.underlying4 _), (trodAll_cons_mk (Below.trod laidOut (by kernel_rfl) (of_decide_eq_true (by kernel_rfl)) k0 bel lt0) (trodAll_cons_mk (Below.trod laidOut (by kernel_rfl) (of_decide_eq_true (by kernel_rfl)) k1 bel lt1) trodAll_mk0)), rfl, bel.frame _, fun h => by cases h⟩
set_option maxHeartbeats 4000000 in
theorem closed_ : joinedFacts Try.prog 16 Try.f16 Rows.fnExactSameResultSpec Rows.fnExactSameResultRow = true := by
  unfold joinedFacts
  simp only [Bool.and_eq_true]
  repeat' apply And.intro
  all_goals first | (with_reducible exact Start.enters_ok) | (rw [Start.lifts_no]; kernel_rfl) | (rw [Start.make_is]; kernel_rfl) | (as_aux_lemma => kernel_rfl)
theorem over : Rows.fnExactSameResultRow.holds Try.pinned (OpenSpec.ofChange Rows.fnExactSameResultSpec) :=
  OpenClaim.holds_of_wide 16 Try.f16 rfl rfl rfl rfl rfl rfl rfl ⟨rfl, rfl, rfl, rfl, rfl⟩ rfl rfl rfl rfl rfl (by kernel_rfl) Try.func16 closed_
    (of_decide_eq_true (by kernel_rfl)) (by unfold Func.isWrapper; first | (rw [if_pos (by decide +kernel)]; kernel_rfl) | (rw [if_neg (by decide +kernel)]; exact ⟨rfl, rfl⟩))
    (fun os started H enc _ => lifted os started H enc)
theorem proved : Rows.FnExactSameResultSaid := over
end Go.Proofs.Ytmkgkinhbahlmaa.fnExactSameResult
namespace Go.Proofs.Ytmkgkinhbahlmaa
/-- The row, under a short name, for the claim. -/
theorem fnExactSameResult_holds : Rows.FnExactSameResultSaid := fnExactSameResult.proved
end Go.Proofs.Ytmkgkinhbahlmaa
