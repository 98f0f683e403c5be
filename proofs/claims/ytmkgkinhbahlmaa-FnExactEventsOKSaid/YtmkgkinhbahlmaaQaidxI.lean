/- Functions of the given program, each as a plain function on numbers and lists, with the proof that its call does just what that function says; no conditions but those typed. -/
import Derived.Test.YtmkgkinhbahlmaaQ0
import Derived.Test.YtmkgkinhbahlmaaQaord
namespace Go.Proofs.Ytmkgkinhbahlmaa.Q
open Go.RowKit Go.Proofs.YtmkgkinhbahlmaaW.PrintWords Go.Proofs.YtmkgkinhbahlmaaW.PrintLast Go.Proofs.YtmkgkinhbahlmaaW.PrintMore
attribute [local go_sem] max2_int min2_int max_two min_two max_three min_three max_four min_four   -- for this text's walks alone
set_option linter.unusedVariables false
set_option linter.unusedSimpArgs false

attribute [local go_sem] bin_leq bin_gtr bin_geq
/-! ### aux idxI -/
/-- Where the first element is of which p holds; -1 of none. -/
def idxI {α : Type} (p : α → Bool) (l : List α) : Int := match l.findIdx? p with | some i => (i : Int) | none => -1
theorem idxI_none {α : Type} {p : α → Bool} {l : List α} (h : ∀ j (hj : j < l.length), p l[j] = false) : idxI p l = -1 := by
  unfold idxI
  rw [List.findIdx?_eq_none_iff.mpr]
  intro x hx
  obtain ⟨j, hj, rfl⟩ := List.mem_iff_getElem.mp hx
  exact h j hj
theorem idxI_some {α : Type} {p : α → Bool} {l : List α} {i : Nat} (hi : i < l.length) (h : ∀ j (hj : j < i), p (l[j]'(by omega)) = false) (hp : p l[i] = true) : idxI p l = i := by
  unfold idxI
  rw [List.findIdx?_eq_some_iff_getElem.mpr ⟨hi, hp, fun j hj => by simp [h j hj]⟩]
theorem idxI_all {α : Type} (p : α → Bool) (l : List α) : (!decide (0 ≤ idxI (fun x => !p x) l)) = l.all p := by
  unfold idxI
  cases h : l.findIdx? (fun x => !p x) with
  | none =>
    have h2 := List.findIdx?_eq_none_iff.mp h
    have : l.all p = true := List.all_eq_true.mpr (fun x hx => by simpa using h2 x hx)
    rw [this]; decide
  | some i =>
    obtain ⟨hi, hp, _⟩ := List.findIdx?_eq_some_iff_getElem.mp h
    have : l.all p = false := by
      rw [Bool.eq_false_iff]
      intro ha
      have := List.all_eq_true.mp ha l[i] (List.getElem_mem hi)
      simp [this] at hp
    rw [this]
    have h0 : (0 : Int) ≤ (i : Int) := by omega
    simp [h0]
/-- A call of function f enters it. -/
theorem enters_ {P : Program} {f : FuncId} {fn : Func} {c : Code} (hf : P.funcs[f]? = some fn) (hname : (fn.name == "runtime.NumGoroutine") = false) (hb : fn.body = some c) : ∀ (args : Array Value) (w : World), (callFunc f args).run P w = .ok (.enter f args) w := by
  intro args w
  have h1 : fn.name ≠ "runtime.NumGoroutine" := by simpa using hname
  simp [callFunc, hf, h1, hb, mark]

end Go.Proofs.Ytmkgkinhbahlmaa.Q
