/- What the start of this program says of itself: words of the first row, each proved without reading the whole row. -/
import Derived.Test.YtjkddaokhmflbaaRows
import Derived.WalkKit
import Derived.ProofKit
import Derived.OpenShut
import Derived.KernelRfl
namespace Go.Proofs.Ytjkddaokhmflbaa.Start

open Go
theorem ws_word : ∀ (w r : List Char), (∀ c, c ∈ w → c ≠ Char.ofNat 32) → wordsSigns (w ++ Char.ofNat 32 :: r) = w :: wordsSigns r
  | [], _, _ => rfl
  | c :: w, r, h => by
    have h1 := ws_word w r (fun x hx => h x (List.mem_cons_of_mem _ hx))
    have hc : c ≠ Char.ofNat 32 := h c List.mem_cons_self
    show wordsSigns (c :: (w ++ Char.ofNat 32 :: r)) = _
    rw [wordsSigns.eq_3 _ _ (fun e => hc e), h1]
def sgA : List Char := List.map Char.ofNat [104, 97, 114, 110, 101, 115, 115]
def sgB : List Char := List.map Char.ofNat [56, 55, 100, 48, 51, 54, 52, 49, 50, 55, 97, 99, 98, 55, 101, 100, 55, 49, 102, 97, 52, 53, 101, 100, 101, 56, 98, 51, 57, 52, 101, 100, 54, 53, 53, 53, 101, 100, 52, 52, 51, 55, 48, 97, 50, 49, 97, 57, 100, 101, 53, 57, 56, 97, 49, 57, 55, 50, 49, 52, 48, 48, 100, 99]
def sgC : List Char := List.map Char.ofNat [99, 117, 116]
def sgD : List Char := List.map Char.ofNat [97, 116, 32, 108, 111, 111, 112, 46, 101, 120, 97, 109, 112, 108, 101, 47, 103, 48, 48, 55, 51, 55, 47, 108, 97, 119, 115, 46, 70, 110, 69, 120, 97, 99, 116, 68, 101, 99, 111, 100, 101, 67, 111, 109, 109, 105, 116, 32, 108, 111, 111, 112, 46, 101, 120, 97, 109, 112, 108, 101, 47, 103, 48, 48, 55, 51, 55, 47, 108, 97, 119, 115, 46, 70, 110, 69, 120, 97, 99, 116, 78, 101, 119, 66, 97, 115, 101, 32, 108, 111, 111, 112, 46, 101, 120, 97, 109, 112, 108, 101, 47, 103, 48, 48, 55, 51, 55, 47, 108, 97, 119, 115, 46, 70, 110, 69, 120, 97, 99, 116, 78, 101, 119, 67, 108, 105, 101, 110, 116]
def signs : List Char := sgA ++ Char.ofNat 32 :: (sgB ++ Char.ofNat 32 :: (sgC ++ Char.ofNat 32 :: sgD))
theorem signs_lit : Try.prog.initOrder = String.ofList signs := by kernel_rfl
theorem signs_is : Try.prog.initOrder.toList = signs := by rw [signs_lit, String.toList_ofList]
theorem words_is : wordsSigns Try.prog.initOrder.toList = sgA :: sgB :: sgC :: wordsSigns sgD := by
  rw [signs_is, signs, ws_word sgA _ (by decide), ws_word sgB _ (by decide), ws_word sgC _ (by decide)]
theorem behind_is : behindMainWord (wordsSigns Try.prog.initOrder.toList) = sgC :: wordsSigns sgD := by
  rw [words_is]
  have h : ∀ R : List (List Char), behindMainWord (sgA :: sgB :: sgC :: R) = sgC :: R := fun R => by
    have h2 : ((sgA == "harness".toList || sgA == "ownmain".toList) && isSumSigns sgB) = true := by kernel_rfl
    simp only [behindMainWord, h2, if_true]
  exact h _
theorem strip_is (R : List (List Char)) : stripLifts liftWords (sgC :: R) = ([], sgC :: R) := by
  have h : ∀ (ls : List String), (ls.all fun o => !(sgC == o.toList)) = true → stripLifts ls (sgC :: R) = ([], sgC :: R) := by
    intro ls
    induction ls with
    | nil => intro _; rfl
    | cons o os ih =>
      intro ha
      simp only [List.all_cons, Bool.and_eq_true, Bool.not_eq_true'] at ha
      simp only [stripLifts, ha.1, Bool.false_eq_true, if_false]
      exact ih ha.2
  exact h liftWords (by kernel_rfl)
theorem cutWord : (sgC == "cut".toList) = true := by kernel_rfl
theorem enters_of {P : Program} {R : List (List Char)} (hb : behindMainWord (wordsSigns P.initOrder.toList) = sgC :: R) (a1 : P.laysLater = false) (a2 : P.bearsReflect = false) (a3 : P.doorFits [] = true) : P.mayEnter = true := by
  have e1 : (some sgC == some "cut".toList) = true := by kernel_rfl
  unfold Program.mayEnter
  rw [hb]
  simp only [strip_is, List.head?_cons, e1, a1, a2, a3]
  simp
theorem lifts_of {P : Program} {R : List (List Char)} (hb : behindMainWord (wordsSigns P.initOrder.toList) = sgC :: R) : P.liftsFinal = false := by
  have e1 : (some sgC == some "carried".toList) = false := by kernel_rfl
  unfold Program.liftsFinal Program.headLifts
  rw [hb]
  simp only [strip_is, List.head?_cons, e1]
  simp
theorem make_of {P : Program} {R : List (List Char)} (hb : behindMainWord (wordsSigns P.initOrder.toList) = sgC :: R) : P.make = some .cut := by
  have g1 : (sgC == "gc".toList) = false := by kernel_rfl
  have g2 : (sgC == "spec".toList) = false := by kernel_rfl
  have g3 : (sgC == "cut".toList) = true := by kernel_rfl
  unfold Program.make
  rw [hb]
  dsimp only
  rw [g1, g2, g3]
  simp only [Bool.or_false, Bool.false_eq_true, if_false, Bool.true_or, if_true]
theorem lays_no : Try.prog.laysLater = false := by kernel_rfl
theorem bears_no : Try.prog.bearsReflect = false := by kernel_rfl
theorem door_ok : Try.prog.doorFits [] = true := by kernel_rfl
theorem enters_ok : Try.prog.mayEnter = true := enters_of behind_is lays_no bears_no door_ok
theorem lifts_no : Try.prog.liftsFinal = false := lifts_of behind_is
theorem make_is : Try.prog.make = some .cut := make_of behind_is
end Go.Proofs.Ytjkddaokhmflbaa.Start
