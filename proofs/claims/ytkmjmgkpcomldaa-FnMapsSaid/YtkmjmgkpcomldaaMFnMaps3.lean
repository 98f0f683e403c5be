/- Parts of the proof of the law FnMaps, joined into one text. -/
import Derived.Test.YtkmjmgkpcomldaaMFnMaps2
section
namespace Go.Proofs.Ytkmjmgkpcomldaa.Q
open Go.RowKit Go.Proofs.YtkmjmgkpcomldaaW.PrintWords Go.Proofs.YtkmjmgkpcomldaaW.PrintLast Go.Proofs.YtkmjmgkpcomldaaW.PrintMore
attribute [local go_sem] max2_int min2_int max_two min_two max_three min_three max_four min_four   -- for this text's walks alone
set_option linter.unusedVariables false
set_option linter.unusedSimpArgs false
attribute [local go_sem] bin_leq bin_gtr bin_geq
mutual
def laws_FnMaps.j0 : Nat → List Int → List Int → Bool → Option (Bool)
  | 0, _, _, _ => none
  | k + 1, x0, x1, x40 => if x40 = true then (some true) else ((spec_EntriesDrawn.f k x0).bind fun t327 => ((spec_KeyDrawn.f x1).bind fun t330 => ((laws_at.f x1 0 1000).bind fun t331 => ((impl_Put.f k t327 t330 t331).bind fun bt332 => ((spec_Put.f k t327 t330 t331).bind fun bt336 => ((impl_Get.f k bt332.1 t330).bind fun bt340 => ((impl_Remove.f k bt332.1 t330).bind fun bt342 => ((spec_Remove.f k bt336.1 t330).bind fun bt346 => ((impl_Get.f k bt342.1 t330).bind fun bt350 => (if bt332.2 = bt336.2 then (if bt336.2 = 0 then ((impl_SameMap.f k bt332.1 bt336.1).bind fun t352 => (if t352 = true then (if bt340.2 = 0 then (if bt340.1 = t331 then (if bt342.2 = bt346.2 then (if bt346.2 = 0 then ((impl_SameMap.f k bt342.1 bt346.1).bind fun t353 => (if t353 = true then (if bt350.2 = 5 then ((impl_MapOK.f k t327).bind fun t354 => (laws_FnMaps.j1 k x1 t327 t330 bt332.1 bt342.1 (!t354))) else (laws_FnMaps.j1 k x1 t327 t330 bt332.1 bt342.1 true)) else (laws_FnMaps.j1 k x1 t327 t330 bt332.1 bt342.1 true))) else (laws_FnMaps.j1 k x1 t327 t330 bt332.1 bt342.1 true)) else (laws_FnMaps.j1 k x1 t327 t330 bt332.1 bt342.1 true)) else (laws_FnMaps.j1 k x1 t327 t330 bt332.1 bt342.1 true)) else (laws_FnMaps.j1 k x1 t327 t330 bt332.1 bt342.1 true)) else (laws_FnMaps.j1 k x1 t327 t330 bt332.1 bt342.1 true))) else (laws_FnMaps.j1 k x1 t327 t330 bt332.1 bt342.1 true)) else (laws_FnMaps.j1 k x1 t327 t330 bt332.1 bt342.1 true)))))))))))
def laws_FnMaps.j1 : Nat → List Int → List (S35) → ByteArray → List (S35) → List (S35) → Bool → Option (Bool)
  | 0, _, _, _, _, _, _ => none
  | k + 1, x1, x5, x6, x8, x14, x130 => if x130 = true then (some false) else (laws_FnMaps.l0 k x1 x5 x6 x8 x14 0)
def laws_FnMaps.l0 : Nat → List Int → List (S35) → ByteArray → List (S35) → List (S35) → Int → Option (Bool)
  | 0, _, _, _, _, _, _ => none
  | k + 1, x1, x5, x6, x8, x14, x20 => if x20 < (x5.length : Int) then (if 0 ≤ x20 then (if ((rd_T35 x5 x20).f0).toList = x6.toList then (laws_FnMaps.l0 k x1 x5 x6 x8 x14 (wrap64 (x20 + 1))) else ((impl_Get.f k x8 ((rd_T35 x5 x20).f0)).bind fun bt357 => ((impl_Get.f k x14 ((rd_T35 x5 x20).f0)).bind fun bt360 => (if bt357.2 = 0 then (if bt360.2 = 0 then (if bt357.1 = ((rd_T35 x5 x20).f1) then (if bt360.1 = ((rd_T35 x5 x20).f1) then (laws_FnMaps.l0 k x1 x5 x6 x8 x14 (wrap64 (x20 + 1))) else (some false)) else (some false)) else (some false)) else (some false))))) else (none)) else ((some (([(⟨#[]⟩ : ByteArray), (⟨#[98]⟩ : ByteArray), (⟨#[107]⟩ : ByteArray)] : List ByteArray) : List ByteArray)).bind fun y364 => ((laws_at.f x1 1 3).bind fun t367 => (if 0 ≤ t367 then (if t367 < (y364.length : Int) then ((some (([(⟨#[]⟩ : ByteArray), (⟨#[99]⟩ : ByteArray), (⟨#[107, 50]⟩ : ByteArray)] : List ByteArray) : List ByteArray)).bind fun y369 => ((laws_at.f x1 2 3).bind fun t372 => (if 0 ≤ t372 then (if t372 < (y369.length : Int) then ((impl_Scan.f k x5 (rdOf ByteArray.empty y364 t367) (rdOf ByteArray.empty y369 t372)).bind fun bt374 => ((spec_Scan.f k x5 (rdOf ByteArray.empty y364 t367) (rdOf ByteArray.empty y369 t372)).bind fun bt378 => (laws_FnMaps.l1 k x5 (rdOf ByteArray.empty y364 t367) (rdOf ByteArray.empty y369 t372) bt374.1 bt374.2 bt378.1 0 0))) else (none)) else (none)))) else (none)) else (none))))
def laws_FnMaps.l1 : Nat → List (S35) → ByteArray → ByteArray → List (S35) → Int → List (S35) → Int → Int → Option (Bool)
  | 0, _, _, _, _, _, _, _, _ => none
  | k + 1, x5, x25, x26, x27, x28, x29, x31, x32 => if x32 < (x5.length : Int) then (if 0 ≤ x32 then (if ((Op.bytesLess (((rd_T35 x5 x32).f0).toList) x25.toList) = true) then (laws_FnMaps.l1 k x5 x25 x26 x27 x28 x29 x31 (wrap64 (x32 + 1))) else (if x26.toList = ([] : List UInt8) then (laws_FnMaps.l1 k x5 x25 x26 x27 x28 x29 (wrap64 (x31 + 1)) (wrap64 (x32 + 1))) else (if (Op.bytesLess (((rd_T35 x5 x32).f0).toList) x26.toList) = true then (laws_FnMaps.l1 k x5 x25 x26 x27 x28 x29 (wrap64 (x31 + 1)) (wrap64 (x32 + 1))) else (laws_FnMaps.l1 k x5 x25 x26 x27 x28 x29 x31 (wrap64 (x32 + 1)))))) else (none)) else (if x28 = 0 then ((impl_SameMap.f k x27 x29).bind fun t384 => (if t384 = true then (some ((x27.length : Int) == x31)) else (some false))) else (some false))
end
def laws_FnMaps.f (k : Nat) (l0 : List Int) (l1 : List Int) : Option (Bool) := if (l0.length : Int) > 1048576 then (laws_FnMaps.j0 k l0 l1 true) else (laws_FnMaps.j0 k l0 l1 (decide ((l1.length : Int) > 1048576)))
set_option maxHeartbeats 8000000 in
set_option maxRecDepth 100000 in
theorem laws_FnMaps.calls (k : Nat) (A0 : Option Addr) (c0 : Nat) (l0 : List Int) (A1 : Option Addr) (c1 : Nat) (l1 : List Int) (r : Bool) (w : World) (hr0 : Kd.C (Kd.int .u8) w A0 l0.length l0) (hc0 : l0.length ≤ c0) (hr1 : Kd.C (Kd.int .u8) w A1 l1.length l1) (hc1 : l1.length ≤ c1) (h : laws_FnMaps.f k l0 l1 = some r) :
    Calls Try.prog 3 #[.slice A0 l0.length c0, .slice A1 l1.length c1] w fun e w' => e = .returned (.bool r) ∧ Below w.heap.size w w' := by
  have HR0 := Aside0.mk hr0
  have HC0 := Aside0.mk hc0
  clear hr0 hc0
  have HR1 := Aside0.mk hr1
  have HC1 := Aside0.mk hc1
  clear hr1 hc1
  have HB := Aside0.mk (Below.refl w.heap.size w)
  have H : (if (l0.length : Int) > 1048576 then (laws_FnMaps.j0 k l0 l1 true) else (laws_FnMaps.j0 k l0 l1 (decide ((l1.length : Int) > 1048576)))) = some r := h
  clear h
  have HC3 := Aside0.mk H
  clear H
  go_enter Try.func3, Try.ntmps3
  go_upto_region 1 with (fail)
  go_cut [40] (fun v40 wc => ∃ (kq : Nat) (x40_2 : Bool), v40 = .bool x40_2 ∧ Aside0 (laws_FnMaps.j0 kq l0 l1 x40_2 = some r) ∧ Aside0 (kq ≤ k) ∧ Aside0 (Below w.heap.size w wc))
  case first =>
   as_aux_lemma =>
     have H := HC3.out
     clear HC3
     by_cases c4 : (l0.length : Int) > 1048576
     · rw [if_pos c4] at H
       have c4b0 : decide (1048576 < (l0.length : Int)) = true := decide_eq_true c4
       have c4b1 : decide (1048576 < l0.length) = true := decide_eq_true (by omega)
       clear c4
       (first | rw [c4b0] | (simp only [i64_w, i32_w]; rw [c4b0]) | skip)
       have H' := Aside0.mk H
       clear H
       go_wp2
       go_meet
       case rel => exact ⟨_, (true), vE, H', ⟨by first | omega | exact Nat.le_refl _⟩, ⟨bW⟩⟩
     · rw [if_neg c4] at H
       have c4b0 : decide (1048576 < (l0.length : Int)) = false := decide_eq_false c4
       have c4b1 : decide (1048576 < l0.length) = false := decide_eq_false (by omega)
       clear c4
       (first | rw [c4b0] | (simp only [i64_w, i32_w]; rw [c4b0]) | skip)
       have H' := Aside0.mk H
       clear H
       go_wp2
       go_meet
       case rel => exact ⟨_, (decide ((l1.length : Int) > 1048576)), vE, H', ⟨by first | omega | exact Nat.le_refl _⟩, ⟨bW⟩⟩
  case rest =>
   as_aux_lemma =>
     clear HC3
     try clear c1
     try clear p2
     try clear c3
     try clear c4
     try clear c4b0
     try clear c4b1
     obtain ⟨kq, x40_2, rfl, HA, HJ2, HB⟩ := hcut
     cases kq with
     | zero => exact absurd HA.out (by simp [laws_FnMaps.j0])
     | succ kj2 =>
       have H := HA.out
       clear HA
       simp only [laws_FnMaps.j0] at H
       by_cases c5 : x40_2 = true
       · subst c5
         have H1 : (some true) = some r := by rw [if_pos rfl] at H; exact H
         clear H
         have H := H1
         clear H1
         obtain rfl := Option.some.inj H
         go_wp2
         go_ret
         exact ⟨rE, bW⟩
       · replace c5 := Bool.eq_false_iff.mpr c5
         subst c5
         have H1 : ((spec_EntriesDrawn.f kj2 l0).bind fun t327 => ((spec_KeyDrawn.f l1).bind fun t330 => ((laws_at.f l1 0 1000).bind fun t331 => ((impl_Put.f kj2 t327 t330 t331).bind fun bt332 => ((spec_Put.f kj2 t327 t330 t331).bind fun bt336 => ((impl_Get.f kj2 bt332.1 t330).bind fun bt340 => ((impl_Remove.f kj2 bt332.1 t330).bind fun bt342 => ((spec_Remove.f kj2 bt336.1 t330).bind fun bt346 => ((impl_Get.f kj2 bt342.1 t330).bind fun bt350 => (if bt332.2 = bt336.2 then (if bt336.2 = 0 then ((impl_SameMap.f kj2 bt332.1 bt336.1).bind fun t352 => (if t352 = true then (if bt340.2 = 0 then (if bt340.1 = t331 then (if bt342.2 = bt346.2 then (if bt346.2 = 0 then ((impl_SameMap.f kj2 bt342.1 bt346.1).bind fun t353 => (if t353 = true then (if bt350.2 = 5 then ((impl_MapOK.f kj2 t327).bind fun t354 => (laws_FnMaps.j1 kj2 l1 t327 t330 bt332.1 bt342.1 (!t354))) else (laws_FnMaps.j1 kj2 l1 t327 t330 bt332.1 bt342.1 true)) else (laws_FnMaps.j1 kj2 l1 t327 t330 bt332.1 bt342.1 true))) else (laws_FnMaps.j1 kj2 l1 t327 t330 bt332.1 bt342.1 true)) else (laws_FnMaps.j1 kj2 l1 t327 t330 bt332.1 bt342.1 true)) else (laws_FnMaps.j1 kj2 l1 t327 t330 bt332.1 bt342.1 true)) else (laws_FnMaps.j1 kj2 l1 t327 t330 bt332.1 bt342.1 true)) else (laws_FnMaps.j1 kj2 l1 t327 t330 bt332.1 bt342.1 true))) else (laws_FnMaps.j1 kj2 l1 t327 t330 bt332.1 bt342.1 true)) else (laws_FnMaps.j1 kj2 l1 t327 t330 bt332.1 bt342.1 true))))))))))) = some r := by rw [if_neg (show ¬ (false = true) by decide)] at H; exact H
         clear H
         have H := H1
         clear H1
         replace H := Option.bind_eq_some_iff.mp H
         obtain ⟨t327, A60, H⟩ := H
         replace H : ((spec_KeyDrawn.f l1).bind fun t330 => ((laws_at.f l1 0 1000).bind fun t331 => ((impl_Put.f kj2 t327 t330 t331).bind fun bt332 => ((spec_Put.f kj2 t327 t330 t331).bind fun bt336 => ((impl_Get.f kj2 bt332.1 t330).bind fun bt340 => ((impl_Remove.f kj2 bt332.1 t330).bind fun bt342 => ((spec_Remove.f kj2 bt336.1 t330).bind fun bt346 => ((impl_Get.f kj2 bt342.1 t330).bind fun bt350 => (if bt332.2 = bt336.2 then (if bt336.2 = 0 then ((impl_SameMap.f kj2 bt332.1 bt336.1).bind fun t352 => (if t352 = true then (if bt340.2 = 0 then (if bt340.1 = t331 then (if bt342.2 = bt346.2 then (if bt346.2 = 0 then ((impl_SameMap.f kj2 bt342.1 bt346.1).bind fun t353 => (if t353 = true then (if bt350.2 = 5 then ((impl_MapOK.f kj2 t327).bind fun t354 => (laws_FnMaps.j1 kj2 l1 t327 t330 bt332.1 bt342.1 (!t354))) else (laws_FnMaps.j1 kj2 l1 t327 t330 bt332.1 bt342.1 true)) else (laws_FnMaps.j1 kj2 l1 t327 t330 bt332.1 bt342.1 true))) else (laws_FnMaps.j1 kj2 l1 t327 t330 bt332.1 bt342.1 true)) else (laws_FnMaps.j1 kj2 l1 t327 t330 bt332.1 bt342.1 true)) else (laws_FnMaps.j1 kj2 l1 t327 t330 bt332.1 bt342.1 true)) else (laws_FnMaps.j1 kj2 l1 t327 t330 bt332.1 bt342.1 true)) else (laws_FnMaps.j1 kj2 l1 t327 t330 bt332.1 bt342.1 true))) else (laws_FnMaps.j1 kj2 l1 t327 t330 bt332.1 bt342.1 true)) else (laws_FnMaps.j1 kj2 l1 t327 t330 bt332.1 bt342.1 true)))))))))) = some r := H
         have A6 := Aside0.mk A60
         clear A60
         replace H := Option.bind_eq_some_iff.mp H
         obtain ⟨t330, A70, H⟩ := H
         replace H : ((laws_at.f l1 0 1000).bind fun t331 => ((impl_Put.f kj2 t327 t330 t331).bind fun bt332 => ((spec_Put.f kj2 t327 t330 t331).bind fun bt336 => ((impl_Get.f kj2 bt332.1 t330).bind fun bt340 => ((impl_Remove.f kj2 bt332.1 t330).bind fun bt342 => ((spec_Remove.f kj2 bt336.1 t330).bind fun bt346 => ((impl_Get.f kj2 bt342.1 t330).bind fun bt350 => (if bt332.2 = bt336.2 then (if bt336.2 = 0 then ((impl_SameMap.f kj2 bt332.1 bt336.1).bind fun t352 => (if t352 = true then (if bt340.2 = 0 then (if bt340.1 = t331 then (if bt342.2 = bt346.2 then (if bt346.2 = 0 then ((impl_SameMap.f kj2 bt342.1 bt346.1).bind fun t353 => (if t353 = true then (if bt350.2 = 5 then ((impl_MapOK.f kj2 t327).bind fun t354 => (laws_FnMaps.j1 kj2 l1 t327 t330 bt332.1 bt342.1 (!t354))) else (laws_FnMaps.j1 kj2 l1 t327 t330 bt332.1 bt342.1 true)) else (laws_FnMaps.j1 kj2 l1 t327 t330 bt332.1 bt342.1 true))) else (laws_FnMaps.j1 kj2 l1 t327 t330 bt332.1 bt342.1 true)) else (laws_FnMaps.j1 kj2 l1 t327 t330 bt332.1 bt342.1 true)) else (laws_FnMaps.j1 kj2 l1 t327 t330 bt332.1 bt342.1 true)) else (laws_FnMaps.j1 kj2 l1 t327 t330 bt332.1 bt342.1 true)) else (laws_FnMaps.j1 kj2 l1 t327 t330 bt332.1 bt342.1 true))) else (laws_FnMaps.j1 kj2 l1 t327 t330 bt332.1 bt342.1 true)) else (laws_FnMaps.j1 kj2 l1 t327 t330 bt332.1 bt342.1 true))))))))) = some r := H
         have A7 := Aside0.mk A70
         clear A70
         replace H := Option.bind_eq_some_iff.mp H
         obtain ⟨t331, A80, H⟩ := H
         replace H : ((impl_Put.f kj2 t327 t330 t331).bind fun bt332 => ((spec_Put.f kj2 t327 t330 t331).bind fun bt336 => ((impl_Get.f kj2 bt332.1 t330).bind fun bt340 => ((impl_Remove.f kj2 bt332.1 t330).bind fun bt342 => ((spec_Remove.f kj2 bt336.1 t330).bind fun bt346 => ((impl_Get.f kj2 bt342.1 t330).bind fun bt350 => (if bt332.2 = bt336.2 then (if bt336.2 = 0 then ((impl_SameMap.f kj2 bt332.1 bt336.1).bind fun t352 => (if t352 = true then (if bt340.2 = 0 then (if bt340.1 = t331 then (if bt342.2 = bt346.2 then (if bt346.2 = 0 then ((impl_SameMap.f kj2 bt342.1 bt346.1).bind fun t353 => (if t353 = true then (if bt350.2 = 5 then ((impl_MapOK.f kj2 t327).bind fun t354 => (laws_FnMaps.j1 kj2 l1 t327 t330 bt332.1 bt342.1 (!t354))) else (laws_FnMaps.j1 kj2 l1 t327 t330 bt332.1 bt342.1 true)) else (laws_FnMaps.j1 kj2 l1 t327 t330 bt332.1 bt342.1 true))) else (laws_FnMaps.j1 kj2 l1 t327 t330 bt332.1 bt342.1 true)) else (laws_FnMaps.j1 kj2 l1 t327 t330 bt332.1 bt342.1 true)) else (laws_FnMaps.j1 kj2 l1 t327 t330 bt332.1 bt342.1 true)) else (laws_FnMaps.j1 kj2 l1 t327 t330 bt332.1 bt342.1 true)) else (laws_FnMaps.j1 kj2 l1 t327 t330 bt332.1 bt342.1 true))) else (laws_FnMaps.j1 kj2 l1 t327 t330 bt332.1 bt342.1 true)) else (laws_FnMaps.j1 kj2 l1 t327 t330 bt332.1 bt342.1 true)))))))) = some r := H
         have A8 := Aside0.mk A80
         clear A80
         replace H := Option.bind_eq_some_iff.mp H
         obtain ⟨⟨t332, t333⟩, A90, H⟩ := H
         replace H : ((spec_Put.f kj2 t327 t330 t331).bind fun bt336 => ((impl_Get.f kj2 t332 t330).bind fun bt340 => ((impl_Remove.f kj2 t332 t330).bind fun bt342 => ((spec_Remove.f kj2 bt336.1 t330).bind fun bt346 => ((impl_Get.f kj2 bt342.1 t330).bind fun bt350 => (if t333 = bt336.2 then (if bt336.2 = 0 then ((impl_SameMap.f kj2 t332 bt336.1).bind fun t352 => (if t352 = true then (if bt340.2 = 0 then (if bt340.1 = t331 then (if bt342.2 = bt346.2 then (if bt346.2 = 0 then ((impl_SameMap.f kj2 bt342.1 bt346.1).bind fun t353 => (if t353 = true then (if bt350.2 = 5 then ((impl_MapOK.f kj2 t327).bind fun t354 => (laws_FnMaps.j1 kj2 l1 t327 t330 t332 bt342.1 (!t354))) else (laws_FnMaps.j1 kj2 l1 t327 t330 t332 bt342.1 true)) else (laws_FnMaps.j1 kj2 l1 t327 t330 t332 bt342.1 true))) else (laws_FnMaps.j1 kj2 l1 t327 t330 t332 bt342.1 true)) else (laws_FnMaps.j1 kj2 l1 t327 t330 t332 bt342.1 true)) else (laws_FnMaps.j1 kj2 l1 t327 t330 t332 bt342.1 true)) else (laws_FnMaps.j1 kj2 l1 t327 t330 t332 bt342.1 true)) else (laws_FnMaps.j1 kj2 l1 t327 t330 t332 bt342.1 true))) else (laws_FnMaps.j1 kj2 l1 t327 t330 t332 bt342.1 true)) else (laws_FnMaps.j1 kj2 l1 t327 t330 t332 bt342.1 true))))))) = some r := H
         have A9 := Aside0.mk A90
         clear A90
         replace H := Option.bind_eq_some_iff.mp H
         obtain ⟨⟨t336, t337⟩, A100, H⟩ := H
         replace H : ((impl_Get.f kj2 t332 t330).bind fun bt340 => ((impl_Remove.f kj2 t332 t330).bind fun bt342 => ((spec_Remove.f kj2 t336 t330).bind fun bt346 => ((impl_Get.f kj2 bt342.1 t330).bind fun bt350 => (if t333 = t337 then (if t337 = 0 then ((impl_SameMap.f kj2 t332 t336).bind fun t352 => (if t352 = true then (if bt340.2 = 0 then (if bt340.1 = t331 then (if bt342.2 = bt346.2 then (if bt346.2 = 0 then ((impl_SameMap.f kj2 bt342.1 bt346.1).bind fun t353 => (if t353 = true then (if bt350.2 = 5 then ((impl_MapOK.f kj2 t327).bind fun t354 => (laws_FnMaps.j1 kj2 l1 t327 t330 t332 bt342.1 (!t354))) else (laws_FnMaps.j1 kj2 l1 t327 t330 t332 bt342.1 true)) else (laws_FnMaps.j1 kj2 l1 t327 t330 t332 bt342.1 true))) else (laws_FnMaps.j1 kj2 l1 t327 t330 t332 bt342.1 true)) else (laws_FnMaps.j1 kj2 l1 t327 t330 t332 bt342.1 true)) else (laws_FnMaps.j1 kj2 l1 t327 t330 t332 bt342.1 true)) else (laws_FnMaps.j1 kj2 l1 t327 t330 t332 bt342.1 true)) else (laws_FnMaps.j1 kj2 l1 t327 t330 t332 bt342.1 true))) else (laws_FnMaps.j1 kj2 l1 t327 t330 t332 bt342.1 true)) else (laws_FnMaps.j1 kj2 l1 t327 t330 t332 bt342.1 true)))))) = some r := H
         have A10 := Aside0.mk A100
         clear A100
         replace H := Option.bind_eq_some_iff.mp H
         obtain ⟨⟨t340, t341⟩, A110, H⟩ := H
         replace H : ((impl_Remove.f kj2 t332 t330).bind fun bt342 => ((spec_Remove.f kj2 t336 t330).bind fun bt346 => ((impl_Get.f kj2 bt342.1 t330).bind fun bt350 => (if t333 = t337 then (if t337 = 0 then ((impl_SameMap.f kj2 t332 t336).bind fun t352 => (if t352 = true then (if t341 = 0 then (if t340 = t331 then (if bt342.2 = bt346.2 then (if bt346.2 = 0 then ((impl_SameMap.f kj2 bt342.1 bt346.1).bind fun t353 => (if t353 = true then (if bt350.2 = 5 then ((impl_MapOK.f kj2 t327).bind fun t354 => (laws_FnMaps.j1 kj2 l1 t327 t330 t332 bt342.1 (!t354))) else (laws_FnMaps.j1 kj2 l1 t327 t330 t332 bt342.1 true)) else (laws_FnMaps.j1 kj2 l1 t327 t330 t332 bt342.1 true))) else (laws_FnMaps.j1 kj2 l1 t327 t330 t332 bt342.1 true)) else (laws_FnMaps.j1 kj2 l1 t327 t330 t332 bt342.1 true)) else (laws_FnMaps.j1 kj2 l1 t327 t330 t332 bt342.1 true)) else (laws_FnMaps.j1 kj2 l1 t327 t330 t332 bt342.1 true)) else (laws_FnMaps.j1 kj2 l1 t327 t330 t332 bt342.1 true))) else (laws_FnMaps.j1 kj2 l1 t327 t330 t332 bt342.1 true)) else (laws_FnMaps.j1 kj2 l1 t327 t330 t332 bt342.1 true))))) = some r := H
         have A11 := Aside0.mk A110
         clear A110
         replace H := Option.bind_eq_some_iff.mp H
         obtain ⟨⟨t342, t343⟩, A120, H⟩ := H
         replace H : ((spec_Remove.f kj2 t336 t330).bind fun bt346 => ((impl_Get.f kj2 t342 t330).bind fun bt350 => (if t333 = t337 then (if t337 = 0 then ((impl_SameMap.f kj2 t332 t336).bind fun t352 => (if t352 = true then (if t341 = 0 then (if t340 = t331 then (if t343 = bt346.2 then (if bt346.2 = 0 then ((impl_SameMap.f kj2 t342 bt346.1).bind fun t353 => (if t353 = true then (if bt350.2 = 5 then ((impl_MapOK.f kj2 t327).bind fun t354 => (laws_FnMaps.j1 kj2 l1 t327 t330 t332 t342 (!t354))) else (laws_FnMaps.j1 kj2 l1 t327 t330 t332 t342 true)) else (laws_FnMaps.j1 kj2 l1 t327 t330 t332 t342 true))) else (laws_FnMaps.j1 kj2 l1 t327 t330 t332 t342 true)) else (laws_FnMaps.j1 kj2 l1 t327 t330 t332 t342 true)) else (laws_FnMaps.j1 kj2 l1 t327 t330 t332 t342 true)) else (laws_FnMaps.j1 kj2 l1 t327 t330 t332 t342 true)) else (laws_FnMaps.j1 kj2 l1 t327 t330 t332 t342 true))) else (laws_FnMaps.j1 kj2 l1 t327 t330 t332 t342 true)) else (laws_FnMaps.j1 kj2 l1 t327 t330 t332 t342 true)))) = some r := H
         have A12 := Aside0.mk A120
         clear A120
         replace H := Option.bind_eq_some_iff.mp H
         obtain ⟨⟨t346, t347⟩, A130, H⟩ := H
         replace H : ((impl_Get.f kj2 t342 t330).bind fun bt350 => (if t333 = t337 then (if t337 = 0 then ((impl_SameMap.f kj2 t332 t336).bind fun t352 => (if t352 = true then (if t341 = 0 then (if t340 = t331 then (if t343 = t347 then (if t347 = 0 then ((impl_SameMap.f kj2 t342 t346).bind fun t353 => (if t353 = true then (if bt350.2 = 5 then ((impl_MapOK.f kj2 t327).bind fun t354 => (laws_FnMaps.j1 kj2 l1 t327 t330 t332 t342 (!t354))) else (laws_FnMaps.j1 kj2 l1 t327 t330 t332 t342 true)) else (laws_FnMaps.j1 kj2 l1 t327 t330 t332 t342 true))) else (laws_FnMaps.j1 kj2 l1 t327 t330 t332 t342 true)) else (laws_FnMaps.j1 kj2 l1 t327 t330 t332 t342 true)) else (laws_FnMaps.j1 kj2 l1 t327 t330 t332 t342 true)) else (laws_FnMaps.j1 kj2 l1 t327 t330 t332 t342 true)) else (laws_FnMaps.j1 kj2 l1 t327 t330 t332 t342 true))) else (laws_FnMaps.j1 kj2 l1 t327 t330 t332 t342 true)) else (laws_FnMaps.j1 kj2 l1 t327 t330 t332 t342 true))) = some r := H
         have A13 := Aside0.mk A130
         clear A130
         replace H := Option.bind_eq_some_iff.mp H
         obtain ⟨⟨t350, t351⟩, A140, H⟩ := H
         replace H : (if t333 = t337 then (if t337 = 0 then ((impl_SameMap.f kj2 t332 t336).bind fun t352 => (if t352 = true then (if t341 = 0 then (if t340 = t331 then (if t343 = t347 then (if t347 = 0 then ((impl_SameMap.f kj2 t342 t346).bind fun t353 => (if t353 = true then (if t351 = 5 then ((impl_MapOK.f kj2 t327).bind fun t354 => (laws_FnMaps.j1 kj2 l1 t327 t330 t332 t342 (!t354))) else (laws_FnMaps.j1 kj2 l1 t327 t330 t332 t342 true)) else (laws_FnMaps.j1 kj2 l1 t327 t330 t332 t342 true))) else (laws_FnMaps.j1 kj2 l1 t327 t330 t332 t342 true)) else (laws_FnMaps.j1 kj2 l1 t327 t330 t332 t342 true)) else (laws_FnMaps.j1 kj2 l1 t327 t330 t332 t342 true)) else (laws_FnMaps.j1 kj2 l1 t327 t330 t332 t342 true)) else (laws_FnMaps.j1 kj2 l1 t327 t330 t332 t342 true))) else (laws_FnMaps.j1 kj2 l1 t327 t330 t332 t342 true)) else (laws_FnMaps.j1 kj2 l1 t327 t330 t332 t342 true)) = some r := H
         have A14 := Aside0.mk A140
         clear A140
         have HC15 := Aside0.mk H
         clear H
         go_upto_region 12 with (first | ((with_reducible refine gate_callee (f := 6) rfl ?_); refine goesL_ (some 42) rfl rfl Try.func6 (by kernel_rfl) rfl #[.slice A0 l0.length c0] rfl gA ?_; (with_reducible refine (spec_EntriesDrawn.calls kj2 _ _ l0 t327 _ ?side1 ?side2 A6.out).mono ?_); (case side1 => exact cB HR0); (case side2 => exact HC0.out); rintro e w16 ⟨v328, rfl, ho0, hb⟩; refine ⟨_, rfl, ?_⟩; have n0_ := Aside0.mk (Kd.R_lower ho0 (below_size (w := w) bW)); have n1_ := Aside0.mk (below_step (w := w) bW hb); clear HB; have HO329 := n0_; have HB := n1_; clear n0_ n1_; (try clear hb); (try clear hb2); (try clear hk); (try clear hi); (try clear ho0)) | ((with_reducible refine gate_callee (f := 7) rfl ?_); refine goesL_ (some 44) rfl rfl Try.func7 (by kernel_rfl) rfl #[.slice A1 l1.length c1] rfl gA ?_; (with_reducible refine (spec_KeyDrawn.calls _ _ l1 t330 _ ?side1 ?side2 A7.out).mono ?_); (case side1 => exact cB HR1); (case side2 => exact HC1.out); rintro e w17 ⟨rfl, hb⟩; refine ⟨_, rfl, ?_⟩; have n0_ := Aside0.mk (Kd.R_below (pR HO329) hb); have n1_ := Aside0.mk (below_step (w := w) bW hb); clear HO329; clear HB; have HO329 := n0_; have HB := n1_; clear n0_ n1_; (try clear hb); (try clear hb2); (try clear hk); (try clear hi)) | ((with_reducible refine gate_callee (f := 8) rfl ?_); refine goesL_ (some 46) rfl rfl Try.func8 (by kernel_rfl) rfl #[.slice A1 l1.length c1, .int .i64 0, .int .i64 1000] rfl gA ?_; (with_reducible refine (laws_at.calls _ _ l1 0 1000 t331 _ ?side1 ?side2 A8.out).mono ?_); (case side1 => exact cB HR1); (case side2 => exact HC1.out); rintro e w' ⟨rfl, ⟨nd, rfl⟩⟩; refine ⟨_, rfl, ?_⟩; obtain ⟨Ao18, co18, eo18⟩ := Kd.R_slice HO329.out; subst eo18) | ((with_reducible refine gate_callee (f := 9) rfl ?_); refine goesL_ (some 51) rfl rfl Try.func9 (by kernel_rfl) rfl #[.slice Ao18 t327.length co18, .string t330, .int .i64 t331] rfl gA ?_; (with_reducible refine (impl_Put.calls kj2 _ _ t327 t330 t331 t332 t333 _ ?side1 ?side2 A9.out).mono ?_); (case side1 => repeat (first | exact (Kd.R_reads' HO329.out).2.2 | (with_reducible refine Kd.C_alloc ?_ _) | (with_reducible refine Kd.C_drewN ?_ _) | (with_reducible refine Kd.C_drew ?_))); (case side2 => exact (Kd.R_reads' HO329.out).2.1); rintro e w19 ⟨v334, rfl, ho0, hb⟩; refine ⟨_, rfl, ?_⟩; have n0_ := Aside0.mk (Kd.R_elder' (pR HO329) (Kd.R_base ho0) hb); have n1_ := Aside0.mk (Kd.R_lower (Kd.R_new' ho0 (Kd.R_lt (pR HO329))) (below_size (w := w) bW)); have n2_ := Aside0.mk (below_step (w := w) bW hb); clear HO329; clear HB; have HO329 := n0_; have HO335 := n1_; have HB := n2_; clear n0_ n1_ n2_; (try clear hb); (try clear hb2); (try clear hk); (try clear hi); (try clear ho0)) | ((with_reducible refine gate_callee (f := 10) rfl ?_); refine goesL_ (some 58) rfl rfl Try.func10 (by kernel_rfl) rfl #[.slice Ao18 t327.length co18, .string t330, .int .i64 t331] rfl gA ?_; (with_reducible refine (spec_Put.calls kj2 _ _ t327 t330 t331 t336 t337 _ ?side1 ?side2 A10.out).mono ?_); (case side1 => repeat (first | exact (Kd.R_reads' HO329.out).2.2 | (with_reducible refine Kd.C_alloc ?_ _) | (with_reducible refine Kd.C_drewN ?_ _) | (with_reducible refine Kd.C_drew ?_))); (case side2 => exact (Kd.R_reads' HO329.out).2.1); rintro e w20 ⟨v338, rfl, ho0, hb⟩; refine ⟨_, rfl, ?_⟩; have n0_ := Aside0.mk (Kd.R_elder' (pR HO329) (Kd.R_base ho0) hb); have n1_ := Aside0.mk (Kd.R_elder' (pR HO335) (Kd.R_base ho0) hb); have n2_ := Aside0.mk (Kd.R_lower (Kd.R_new' (Kd.R_new' ho0 (Kd.R_lt (pR HO329))) (Kd.R_lt (pR HO335))) (below_size (w := w) bW)); have n3_ := Aside0.mk (below_step (w := w) bW hb); clear HO329; clear HO335; clear HB; have HO329 := n0_; have HO335 := n1_; have HO339 := n2_; have HB := n3_; clear n0_ n1_ n2_ n3_; (try clear hb); (try clear hb2); (try clear hk); (try clear hi); (try clear ho0); obtain ⟨Ao21, co21, eo21⟩ := Kd.R_slice HO335.out; subst eo21) | ((with_reducible refine gate_callee (f := 11) rfl ?_); refine goesL_ (some 64) rfl rfl Try.func11 (by kernel_rfl) rfl #[.slice Ao21 t332.length co21, .string t330] rfl gA ?_; (with_reducible refine (impl_Get.calls kj2 _ _ t332 t330 t340 t341 _ ?side1 ?side2 A11.out).mono ?_); (case side1 => repeat (first | exact (Kd.R_reads' HO335.out).2.2 | (with_reducible refine Kd.C_alloc ?_ _) | (with_reducible refine Kd.C_drewN ?_ _) | (with_reducible refine Kd.C_drew ?_))); (case side2 => exact (Kd.R_reads' HO335.out).2.1); rintro e w22 ⟨rfl, hb⟩; refine ⟨_, rfl, ?_⟩; have n0_ := Aside0.mk (Kd.R_below (pR HO329) hb); have n1_ := Aside0.mk (Kd.R_below (pR HO335) hb); have n2_ := Aside0.mk (Kd.R_below (pR HO339) hb); have n3_ := Aside0.mk (below_step (w := w) bW hb); clear HO329; clear HO335; clear HO339; clear HB; have HO329 := n0_; have HO335 := n1_; have HO339 := n2_; have HB := n3_; clear n0_ n1_ n2_ n3_; (try clear hb); (try clear hb2); (try clear hk); (try clear hi)) | ((with_reducible refine gate_callee (f := 12) rfl ?_); refine goesL_ (some 70) rfl rfl Try.func12 (by kernel_rfl) rfl #[.slice Ao21 t332.length co21, .string t330] rfl gA ?_; (with_reducible refine (impl_Remove.calls kj2 _ _ t332 t330 t342 t343 _ ?side1 ?side2 A12.out).mono ?_); (case side1 => repeat (first | exact (Kd.R_reads' HO335.out).2.2 | (with_reducible refine Kd.C_alloc ?_ _) | (with_reducible refine Kd.C_drewN ?_ _) | (with_reducible refine Kd.C_drew ?_))); (case side2 => exact (Kd.R_reads' HO335.out).2.1); rintro e w23 ⟨v344, rfl, ho0, hb⟩; refine ⟨_, rfl, ?_⟩; have n0_ := Aside0.mk (Kd.R_elder' (pR HO329) (Kd.R_base ho0) hb); have n1_ := Aside0.mk (Kd.R_elder' (pR HO335) (Kd.R_base ho0) hb); have n2_ := Aside0.mk (Kd.R_elder' (pR HO339) (Kd.R_base ho0) hb); have n3_ := Aside0.mk (Kd.R_lower (Kd.R_new' (Kd.R_new' (Kd.R_new' ho0 (Kd.R_lt (pR HO329))) (Kd.R_lt (pR HO335))) (Kd.R_lt (pR HO339))) (below_size (w := w) bW)); have n4_ := Aside0.mk (below_step (w := w) bW hb); clear HO329; clear HO335; clear HO339; clear HB; have HO329 := n0_; have HO335 := n1_; have HO339 := n2_; have HO345 := n3_; have HB := n4_; clear n0_ n1_ n2_ n3_ n4_; (try clear hb); (try clear hb2); (try clear hk); (try clear hi); (try clear ho0); obtain ⟨Ao24, co24, eo24⟩ := Kd.R_slice HO339.out; subst eo24) | ((with_reducible refine gate_callee (f := 13) rfl ?_); refine goesL_ (some 76) rfl rfl Try.func13 (by kernel_rfl) rfl #[.slice Ao24 t336.length co24, .string t330] rfl gA ?_; (with_reducible refine (spec_Remove.calls kj2 _ _ t336 t330 t346 t347 _ ?side1 ?side2 A13.out).mono ?_); (case side1 => repeat (first | exact (Kd.R_reads' HO339.out).2.2 | (with_reducible refine Kd.C_alloc ?_ _) | (with_reducible refine Kd.C_drewN ?_ _) | (with_reducible refine Kd.C_drew ?_))); (case side2 => exact (Kd.R_reads' HO339.out).2.1); rintro e w25 ⟨v348, rfl, ho0, hb⟩; refine ⟨_, rfl, ?_⟩; have n0_ := Aside0.mk (Kd.R_elder' (pR HO329) (Kd.R_base ho0) hb); have n1_ := Aside0.mk (Kd.R_elder' (pR HO335) (Kd.R_base ho0) hb); have n2_ := Aside0.mk (Kd.R_elder' (pR HO339) (Kd.R_base ho0) hb); have n3_ := Aside0.mk (Kd.R_elder' (pR HO345) (Kd.R_base ho0) hb); have n4_ := Aside0.mk (Kd.R_lower (Kd.R_new' (Kd.R_new' (Kd.R_new' (Kd.R_new' ho0 (Kd.R_lt (pR HO329))) (Kd.R_lt (pR HO335))) (Kd.R_lt (pR HO339))) (Kd.R_lt (pR HO345))) (below_size (w := w) bW)); have n5_ := Aside0.mk (below_step (w := w) bW hb); clear HO329; clear HO335; clear HO339; clear HO345; clear HB; have HO329 := n0_; have HO335 := n1_; have HO339 := n2_; have HO345 := n3_; have HO349 := n4_; have HB := n5_; clear n0_ n1_ n2_ n3_ n4_ n5_; (try clear hb); (try clear hb2); (try clear hk); (try clear hi); (try clear ho0); obtain ⟨Ao26, co26, eo26⟩ := Kd.R_slice HO345.out; subst eo26) | ((with_reducible refine gate_callee (f := 11) rfl ?_); refine goesL_ (some 82) rfl rfl Try.func11 (by kernel_rfl) rfl #[.slice Ao26 t342.length co26, .string t330] rfl gA ?_; (with_reducible refine (impl_Get.calls kj2 _ _ t342 t330 t350 t351 _ ?side1 ?side2 A14.out).mono ?_); (case side1 => repeat (first | exact (Kd.R_reads' HO345.out).2.2 | (with_reducible refine Kd.C_alloc ?_ _) | (with_reducible refine Kd.C_drewN ?_ _) | (with_reducible refine Kd.C_drew ?_))); (case side2 => exact (Kd.R_reads' HO345.out).2.1); rintro e w27 ⟨rfl, hb⟩; refine ⟨_, rfl, ?_⟩; have n0_ := Aside0.mk (Kd.R_below (pR HO329) hb); have n1_ := Aside0.mk (Kd.R_below (pR HO335) hb); have n2_ := Aside0.mk (Kd.R_below (pR HO339) hb); have n3_ := Aside0.mk (Kd.R_below (pR HO345) hb); have n4_ := Aside0.mk (Kd.R_below (pR HO349) hb); have n5_ := Aside0.mk (below_step (w := w) bW hb); clear HO329; clear HO335; clear HO339; clear HO345; clear HO349; clear HB; have HO329 := n0_; have HO335 := n1_; have HO339 := n2_; have HO345 := n3_; have HO349 := n4_; have HB := n5_; clear n0_ n1_ n2_ n3_ n4_ n5_; (try clear hb); (try clear hb2); (try clear hk); (try clear hi)))
         (try simp only [Act.put, List.setIfInBounds_toArray, List.set_cons_zero, List.set_cons_succ])
         go_cut [130] (fun v130 wc => ∃ (kq : Nat) (x130_14 : Bool), v130 = .bool x130_14 ∧ Aside0 (laws_FnMaps.j1 kq l1 t327 t330 t332 t342 x130_14 = some r) ∧ Aside0 (kq ≤ kj2) ∧ Aside0 (Kd.R k35 35 wc w.heap.size (fun k_ => some k_ ≠ ((.slice Ao21 t332.length co21) : Value).ownBlock ∧ some k_ ≠ ((.slice Ao26 t342.length co26) : Value).ownBlock) (.slice Ao18 t327.length co18) t327) ∧ Aside0 (Kd.R k35 35 wc w.heap.size (fun k_ => some k_ ≠ ((.slice Ao18 t327.length co18) : Value).ownBlock ∧ some k_ ≠ ((.slice Ao26 t342.length co26) : Value).ownBlock) (.slice Ao21 t332.length co21) t332) ∧ Aside0 (Kd.R k35 35 wc w.heap.size (fun k_ => some k_ ≠ ((.slice Ao18 t327.length co18) : Value).ownBlock ∧ some k_ ≠ ((.slice Ao21 t332.length co21) : Value).ownBlock) (.slice Ao26 t342.length co26) t342) ∧ Aside0 (Below w.heap.size w wc))
         case first =>
          as_aux_lemma =>
            have H := HC15.out
            clear HC15
            by_cases c28 : t333 = t337
            · rw [if_pos c28] at H
              have c28b0 : (t333 == t337) = true := beq_iff_eq.mpr c28
              have c28b1 : (t333 != t337) = false := bne_eq_false_iff_eq.mpr c28
              clear c28
              (first | rw [c28b0] | (simp only [i64_w, i32_w]; rw [c28b0]) | skip)
              by_cases c29 : t337 = 0
              · rw [if_pos c29] at H
                have c29b0 : (t337 == 0) = true := beq_iff_eq.mpr c29
                have c29b1 : (t337 != 0) = false := bne_eq_false_iff_eq.mpr c29
                clear c29
                replace H := Option.bind_eq_some_iff.mp H
                obtain ⟨t352, A300, H⟩ := H
                replace H : (if t352 = true then (if t341 = 0 then (if t340 = t331 then (if t343 = t347 then (if t347 = 0 then ((impl_SameMap.f kj2 t342 t346).bind fun t353 => (if t353 = true then (if t351 = 5 then ((impl_MapOK.f kj2 t327).bind fun t354 => (laws_FnMaps.j1 kj2 l1 t327 t330 t332 t342 (!t354))) else (laws_FnMaps.j1 kj2 l1 t327 t330 t332 t342 true)) else (laws_FnMaps.j1 kj2 l1 t327 t330 t332 t342 true))) else (laws_FnMaps.j1 kj2 l1 t327 t330 t332 t342 true)) else (laws_FnMaps.j1 kj2 l1 t327 t330 t332 t342 true)) else (laws_FnMaps.j1 kj2 l1 t327 t330 t332 t342 true)) else (laws_FnMaps.j1 kj2 l1 t327 t330 t332 t342 true)) else (laws_FnMaps.j1 kj2 l1 t327 t330 t332 t342 true)) = some r := H
                have A30 := Aside0.mk A300
                clear A300
                by_cases c31 : t352 = true
                · subst c31
                  have H1 : (if t341 = 0 then (if t340 = t331 then (if t343 = t347 then (if t347 = 0 then ((impl_SameMap.f kj2 t342 t346).bind fun t353 => (if t353 = true then (if t351 = 5 then ((impl_MapOK.f kj2 t327).bind fun t354 => (laws_FnMaps.j1 kj2 l1 t327 t330 t332 t342 (!t354))) else (laws_FnMaps.j1 kj2 l1 t327 t330 t332 t342 true)) else (laws_FnMaps.j1 kj2 l1 t327 t330 t332 t342 true))) else (laws_FnMaps.j1 kj2 l1 t327 t330 t332 t342 true)) else (laws_FnMaps.j1 kj2 l1 t327 t330 t332 t342 true)) else (laws_FnMaps.j1 kj2 l1 t327 t330 t332 t342 true)) else (laws_FnMaps.j1 kj2 l1 t327 t330 t332 t342 true)) = some r := by rw [if_pos rfl] at H; exact H
                  clear H
                  have H := H1
                  clear H1
                  by_cases c32 : t341 = 0
                  · rw [if_pos c32] at H
                    have c32b0 : (t341 == 0) = true := beq_iff_eq.mpr c32
                    have c32b1 : (t341 != 0) = false := bne_eq_false_iff_eq.mpr c32
                    clear c32
                    by_cases c33 : t340 = t331
                    · rw [if_pos c33] at H
                      have c33b0 : (t340 == t331) = true := beq_iff_eq.mpr c33
                      have c33b1 : (t340 != t331) = false := bne_eq_false_iff_eq.mpr c33
                      clear c33
                      by_cases c34 : t343 = t347
                      · rw [if_pos c34] at H
                        have c34b0 : (t343 == t347) = true := beq_iff_eq.mpr c34
                        have c34b1 : (t343 != t347) = false := bne_eq_false_iff_eq.mpr c34
                        clear c34
                        by_cases c35 : t347 = 0
                        · rw [if_pos c35] at H
                          have c35b0 : (t347 == 0) = true := beq_iff_eq.mpr c35
                          have c35b1 : (t347 != 0) = false := bne_eq_false_iff_eq.mpr c35
                          clear c35
                          replace H := Option.bind_eq_some_iff.mp H
                          obtain ⟨t353, A360, H⟩ := H
                          replace H : (if t353 = true then (if t351 = 5 then ((impl_MapOK.f kj2 t327).bind fun t354 => (laws_FnMaps.j1 kj2 l1 t327 t330 t332 t342 (!t354))) else (laws_FnMaps.j1 kj2 l1 t327 t330 t332 t342 true)) else (laws_FnMaps.j1 kj2 l1 t327 t330 t332 t342 true)) = some r := H
                          have A36 := Aside0.mk A360
                          clear A360
                          by_cases c37 : t353 = true
                          · subst c37
                            have H1 : (if t351 = 5 then ((impl_MapOK.f kj2 t327).bind fun t354 => (laws_FnMaps.j1 kj2 l1 t327 t330 t332 t342 (!t354))) else (laws_FnMaps.j1 kj2 l1 t327 t330 t332 t342 true)) = some r := by rw [if_pos rfl] at H; exact H
                            clear H
                            have H := H1
                            clear H1
                            by_cases c38 : t351 = 5
                            · rw [if_pos c38] at H
                              have c38b0 : (t351 == 5) = true := beq_iff_eq.mpr c38
                              have c38b1 : (t351 != 5) = false := bne_eq_false_iff_eq.mpr c38
                              clear c38
                              replace H := Option.bind_eq_some_iff.mp H
                              obtain ⟨t354, A390, H⟩ := H
                              replace H : (laws_FnMaps.j1 kj2 l1 t327 t330 t332 t342 (!t354)) = some r := H
                              have A39 := Aside0.mk A390
                              clear A390
                              have H' := Aside0.mk H
                              clear H
                              go_wp2_with (first | (go_at_call 14; (with_reducible refine (impl_SameMap.calls kj2 _ _ t332 _ _ t336 true _ ?side1 ?side2 ?side3 ?side4 A30.out).mono ?_); (case side1 => repeat (first | exact (Kd.R_reads' HO335.out).2.2 | (with_reducible refine Kd.C_alloc ?_ _) | (with_reducible refine Kd.C_drewN ?_ _) | (with_reducible refine Kd.C_drew ?_))); (case side2 => exact (Kd.R_reads' HO335.out).2.1); (case side3 => repeat (first | exact (Kd.R_reads' HO339.out).2.2 | (with_reducible refine Kd.C_alloc ?_ _) | (with_reducible refine Kd.C_drewN ?_ _) | (with_reducible refine Kd.C_drew ?_))); (case side4 => exact (Kd.R_reads' HO339.out).2.1); rintro e w40 ⟨rfl, hb⟩; have n0_ := Aside0.mk (Kd.R_below (pR HO329) hb); have n1_ := Aside0.mk (Kd.R_below (pR HO335) hb); have n2_ := Aside0.mk (Kd.R_below (pR HO339) hb); have n3_ := Aside0.mk (Kd.R_below (pR HO345) hb); have n4_ := Aside0.mk (Kd.R_below (pR HO349) hb); have n5_ := Aside0.mk (below_step (w := w) bW hb); clear HO329; clear HO335; clear HO339; clear HO345; clear HO349; clear HB; have HO329 := n0_; have HO335 := n1_; have HO339 := n2_; have HO345 := n3_; have HO349 := n4_; have HB := n5_; clear n0_ n1_ n2_ n3_ n4_ n5_; (try clear hb); (try clear hb2); (try clear hk); (try clear hi); obtain ⟨Ao41, co41, eo41⟩ := Kd.R_slice HO349.out; subst eo41) | (go_at_call 14; (with_reducible refine (impl_SameMap.calls kj2 _ _ t342 _ _ t346 true _ ?side1 ?side2 ?side3 ?side4 A36.out).mono ?_); (case side1 => repeat (first | exact (Kd.R_reads' HO345.out).2.2 | (with_reducible refine Kd.C_alloc ?_ _) | (with_reducible refine Kd.C_drewN ?_ _) | (with_reducible refine Kd.C_drew ?_))); (case side2 => exact (Kd.R_reads' HO345.out).2.1); (case side3 => repeat (first | exact (Kd.R_reads' HO349.out).2.2 | (with_reducible refine Kd.C_alloc ?_ _) | (with_reducible refine Kd.C_drewN ?_ _) | (with_reducible refine Kd.C_drew ?_))); (case side4 => exact (Kd.R_reads' HO349.out).2.1); rintro e w42 ⟨rfl, hb⟩; have n0_ := Aside0.mk (Kd.R_below (pR HO329) hb); have n1_ := Aside0.mk (Kd.R_below (pR HO335) hb); have n2_ := Aside0.mk (Kd.R_below (pR HO339) hb); have n3_ := Aside0.mk (Kd.R_below (pR HO345) hb); have n4_ := Aside0.mk (Kd.R_below (pR HO349) hb); have n5_ := Aside0.mk (below_step (w := w) bW hb); clear HO329; clear HO335; clear HO339; clear HO345; clear HO349; clear HB; have HO329 := n0_; have HO335 := n1_; have HO339 := n2_; have HO345 := n3_; have HO349 := n4_; have HB := n5_; clear n0_ n1_ n2_ n3_ n4_ n5_; (try clear hb); (try clear hb2); (try clear hk); (try clear hi)) | (go_at_call 15; (with_reducible refine (impl_MapOK.calls kj2 _ _ t327 t354 _ ?side1 ?side2 A39.out).mono ?_); (case side1 => repeat (first | exact (Kd.R_reads' HO329.out).2.2 | (with_reducible refine Kd.C_alloc ?_ _) | (with_reducible refine Kd.C_drewN ?_ _) | (with_reducible refine Kd.C_drew ?_))); (case side2 => exact (Kd.R_reads' HO329.out).2.1); rintro e w43 ⟨rfl, hb⟩; have n0_ := Aside0.mk (Kd.R_below (pR HO329) hb); have n1_ := Aside0.mk (Kd.R_below (pR HO335) hb); have n2_ := Aside0.mk (Kd.R_below (pR HO339) hb); have n3_ := Aside0.mk (Kd.R_below (pR HO345) hb); have n4_ := Aside0.mk (Kd.R_below (pR HO349) hb); have n5_ := Aside0.mk (below_step (w := w) bW hb); clear HO329; clear HO335; clear HO339; clear HO345; clear HO349; clear HB; have HO329 := n0_; have HO335 := n1_; have HO339 := n2_; have HO345 := n3_; have HO349 := n4_; have HB := n5_; clear n0_ n1_ n2_ n3_ n4_ n5_; (try clear hb); (try clear hb2); (try clear hk); (try clear hi)))
                              go_meet
                              case rel => exact ⟨_, (!t354), vE, H', ⟨by have := HJ2.out; first | omega | exact Nat.le_refl _⟩, ⟨by (with_reducible repeat (first | apply Kd.R_alloc | apply Kd.R_drewN | apply Kd.R_drew)); exact Kd.R_mono HO329.out (fun _ hk => ⟨hk.1.1.1.2, hk.1.2⟩)⟩, ⟨by (with_reducible repeat (first | apply Kd.R_alloc | apply Kd.R_drewN | apply Kd.R_drew)); exact Kd.R_mono HO335.out (fun _ hk => ⟨hk.1.1.1.2, hk.1.2⟩)⟩, ⟨by (with_reducible repeat (first | apply Kd.R_alloc | apply Kd.R_drewN | apply Kd.R_drew)); exact Kd.R_mono HO345.out (fun _ hk => ⟨hk.1.1.1.2, hk.1.1.2⟩)⟩, ⟨bW⟩⟩
                            · rw [if_neg c38] at H
                              have c38b0 : (t351 == 5) = false := beq_eq_false_iff_ne.mpr c38
                              have c38b1 : (t351 != 5) = true := bne_iff_ne.mpr c38
                              have H' := Aside0.mk H
                              clear H
                              go_wp2_with (first | (go_at_call 14; (with_reducible refine (impl_SameMap.calls kj2 _ _ t332 _ _ t336 true _ ?side1 ?side2 ?side3 ?side4 A30.out).mono ?_); (case side1 => repeat (first | exact (Kd.R_reads' HO335.out).2.2 | (with_reducible refine Kd.C_alloc ?_ _) | (with_reducible refine Kd.C_drewN ?_ _) | (with_reducible refine Kd.C_drew ?_))); (case side2 => exact (Kd.R_reads' HO335.out).2.1); (case side3 => repeat (first | exact (Kd.R_reads' HO339.out).2.2 | (with_reducible refine Kd.C_alloc ?_ _) | (with_reducible refine Kd.C_drewN ?_ _) | (with_reducible refine Kd.C_drew ?_))); (case side4 => exact (Kd.R_reads' HO339.out).2.1); rintro e w44 ⟨rfl, hb⟩; have n0_ := Aside0.mk (Kd.R_below (pR HO329) hb); have n1_ := Aside0.mk (Kd.R_below (pR HO335) hb); have n2_ := Aside0.mk (Kd.R_below (pR HO339) hb); have n3_ := Aside0.mk (Kd.R_below (pR HO345) hb); have n4_ := Aside0.mk (Kd.R_below (pR HO349) hb); have n5_ := Aside0.mk (below_step (w := w) bW hb); clear HO329; clear HO335; clear HO339; clear HO345; clear HO349; clear HB; have HO329 := n0_; have HO335 := n1_; have HO339 := n2_; have HO345 := n3_; have HO349 := n4_; have HB := n5_; clear n0_ n1_ n2_ n3_ n4_ n5_; (try clear hb); (try clear hb2); (try clear hk); (try clear hi); obtain ⟨Ao45, co45, eo45⟩ := Kd.R_slice HO349.out; subst eo45) | (go_at_call 14; (with_reducible refine (impl_SameMap.calls kj2 _ _ t342 _ _ t346 true _ ?side1 ?side2 ?side3 ?side4 A36.out).mono ?_); (case side1 => repeat (first | exact (Kd.R_reads' HO345.out).2.2 | (with_reducible refine Kd.C_alloc ?_ _) | (with_reducible refine Kd.C_drewN ?_ _) | (with_reducible refine Kd.C_drew ?_))); (case side2 => exact (Kd.R_reads' HO345.out).2.1); (case side3 => repeat (first | exact (Kd.R_reads' HO349.out).2.2 | (with_reducible refine Kd.C_alloc ?_ _) | (with_reducible refine Kd.C_drewN ?_ _) | (with_reducible refine Kd.C_drew ?_))); (case side4 => exact (Kd.R_reads' HO349.out).2.1); rintro e w46 ⟨rfl, hb⟩; have n0_ := Aside0.mk (Kd.R_below (pR HO329) hb); have n1_ := Aside0.mk (Kd.R_below (pR HO335) hb); have n2_ := Aside0.mk (Kd.R_below (pR HO339) hb); have n3_ := Aside0.mk (Kd.R_below (pR HO345) hb); have n4_ := Aside0.mk (Kd.R_below (pR HO349) hb); have n5_ := Aside0.mk (below_step (w := w) bW hb); clear HO329; clear HO335; clear HO339; clear HO345; clear HO349; clear HB; have HO329 := n0_; have HO335 := n1_; have HO339 := n2_; have HO345 := n3_; have HO349 := n4_; have HB := n5_; clear n0_ n1_ n2_ n3_ n4_ n5_; (try clear hb); (try clear hb2); (try clear hk); (try clear hi)))
                              go_meet
                              case rel => exact ⟨_, (true), vE, H', ⟨by have := HJ2.out; first | omega | exact Nat.le_refl _⟩, ⟨by (with_reducible repeat (first | apply Kd.R_alloc | apply Kd.R_drewN | apply Kd.R_drew)); exact Kd.R_mono HO329.out (fun _ hk => ⟨hk.1.1.1.2, hk.1.2⟩)⟩, ⟨by (with_reducible repeat (first | apply Kd.R_alloc | apply Kd.R_drewN | apply Kd.R_drew)); exact Kd.R_mono HO335.out (fun _ hk => ⟨hk.1.1.1.2, hk.1.2⟩)⟩, ⟨by (with_reducible repeat (first | apply Kd.R_alloc | apply Kd.R_drewN | apply Kd.R_drew)); exact Kd.R_mono HO345.out (fun _ hk => ⟨hk.1.1.1.2, hk.1.1.2⟩)⟩, ⟨bW⟩⟩
                          · replace c37 := Bool.eq_false_iff.mpr c37
                            subst c37
                            have H1 : (laws_FnMaps.j1 kj2 l1 t327 t330 t332 t342 true) = some r := by rw [if_neg (show ¬ (false = true) by decide)] at H; exact H
                            clear H
                            have H := H1
                            clear H1
                            have H' := Aside0.mk H
                            clear H
                            go_wp2_with (first | (go_at_call 14; (with_reducible refine (impl_SameMap.calls kj2 _ _ t332 _ _ t336 true _ ?side1 ?side2 ?side3 ?side4 A30.out).mono ?_); (case side1 => repeat (first | exact (Kd.R_reads' HO335.out).2.2 | (with_reducible refine Kd.C_alloc ?_ _) | (with_reducible refine Kd.C_drewN ?_ _) | (with_reducible refine Kd.C_drew ?_))); (case side2 => exact (Kd.R_reads' HO335.out).2.1); (case side3 => repeat (first | exact (Kd.R_reads' HO339.out).2.2 | (with_reducible refine Kd.C_alloc ?_ _) | (with_reducible refine Kd.C_drewN ?_ _) | (with_reducible refine Kd.C_drew ?_))); (case side4 => exact (Kd.R_reads' HO339.out).2.1); rintro e w47 ⟨rfl, hb⟩; have n0_ := Aside0.mk (Kd.R_below (pR HO329) hb); have n1_ := Aside0.mk (Kd.R_below (pR HO335) hb); have n2_ := Aside0.mk (Kd.R_below (pR HO339) hb); have n3_ := Aside0.mk (Kd.R_below (pR HO345) hb); have n4_ := Aside0.mk (Kd.R_below (pR HO349) hb); have n5_ := Aside0.mk (below_step (w := w) bW hb); clear HO329; clear HO335; clear HO339; clear HO345; clear HO349; clear HB; have HO329 := n0_; have HO335 := n1_; have HO339 := n2_; have HO345 := n3_; have HO349 := n4_; have HB := n5_; clear n0_ n1_ n2_ n3_ n4_ n5_; (try clear hb); (try clear hb2); (try clear hk); (try clear hi); obtain ⟨Ao48, co48, eo48⟩ := Kd.R_slice HO349.out; subst eo48) | (go_at_call 14; (with_reducible refine (impl_SameMap.calls kj2 _ _ t342 _ _ t346 false _ ?side1 ?side2 ?side3 ?side4 A36.out).mono ?_); (case side1 => repeat (first | exact (Kd.R_reads' HO345.out).2.2 | (with_reducible refine Kd.C_alloc ?_ _) | (with_reducible refine Kd.C_drewN ?_ _) | (with_reducible refine Kd.C_drew ?_))); (case side2 => exact (Kd.R_reads' HO345.out).2.1); (case side3 => repeat (first | exact (Kd.R_reads' HO349.out).2.2 | (with_reducible refine Kd.C_alloc ?_ _) | (with_reducible refine Kd.C_drewN ?_ _) | (with_reducible refine Kd.C_drew ?_))); (case side4 => exact (Kd.R_reads' HO349.out).2.1); rintro e w49 ⟨rfl, hb⟩; have n0_ := Aside0.mk (Kd.R_below (pR HO329) hb); have n1_ := Aside0.mk (Kd.R_below (pR HO335) hb); have n2_ := Aside0.mk (Kd.R_below (pR HO339) hb); have n3_ := Aside0.mk (Kd.R_below (pR HO345) hb); have n4_ := Aside0.mk (Kd.R_below (pR HO349) hb); have n5_ := Aside0.mk (below_step (w := w) bW hb); clear HO329; clear HO335; clear HO339; clear HO345; clear HO349; clear HB; have HO329 := n0_; have HO335 := n1_; have HO339 := n2_; have HO345 := n3_; have HO349 := n4_; have HB := n5_; clear n0_ n1_ n2_ n3_ n4_ n5_; (try clear hb); (try clear hb2); (try clear hk); (try clear hi)))
                            go_meet
                            case rel => exact ⟨_, (true), vE, H', ⟨by have := HJ2.out; first | omega | exact Nat.le_refl _⟩, ⟨by (with_reducible repeat (first | apply Kd.R_alloc | apply Kd.R_drewN | apply Kd.R_drew)); exact Kd.R_mono HO329.out (fun _ hk => ⟨hk.1.1.1.2, hk.1.2⟩)⟩, ⟨by (with_reducible repeat (first | apply Kd.R_alloc | apply Kd.R_drewN | apply Kd.R_drew)); exact Kd.R_mono HO335.out (fun _ hk => ⟨hk.1.1.1.2, hk.1.2⟩)⟩, ⟨by (with_reducible repeat (first | apply Kd.R_alloc | apply Kd.R_drewN | apply Kd.R_drew)); exact Kd.R_mono HO345.out (fun _ hk => ⟨hk.1.1.1.2, hk.1.1.2⟩)⟩, ⟨bW⟩⟩
                        · rw [if_neg c35] at H
                          have c35b0 : (t347 == 0) = false := beq_eq_false_iff_ne.mpr c35
                          have c35b1 : (t347 != 0) = true := bne_iff_ne.mpr c35
                          have H' := Aside0.mk H
                          clear H
                          go_wp2_with (first | (go_at_call 14; (with_reducible refine (impl_SameMap.calls kj2 _ _ t332 _ _ t336 true _ ?side1 ?side2 ?side3 ?side4 A30.out).mono ?_); (case side1 => repeat (first | exact (Kd.R_reads' HO335.out).2.2 | (with_reducible refine Kd.C_alloc ?_ _) | (with_reducible refine Kd.C_drewN ?_ _) | (with_reducible refine Kd.C_drew ?_))); (case side2 => exact (Kd.R_reads' HO335.out).2.1); (case side3 => repeat (first | exact (Kd.R_reads' HO339.out).2.2 | (with_reducible refine Kd.C_alloc ?_ _) | (with_reducible refine Kd.C_drewN ?_ _) | (with_reducible refine Kd.C_drew ?_))); (case side4 => exact (Kd.R_reads' HO339.out).2.1); rintro e w50 ⟨rfl, hb⟩; have n0_ := Aside0.mk (Kd.R_below (pR HO329) hb); have n1_ := Aside0.mk (Kd.R_below (pR HO335) hb); have n2_ := Aside0.mk (Kd.R_below (pR HO339) hb); have n3_ := Aside0.mk (Kd.R_below (pR HO345) hb); have n4_ := Aside0.mk (Kd.R_below (pR HO349) hb); have n5_ := Aside0.mk (below_step (w := w) bW hb); clear HO329; clear HO335; clear HO339; clear HO345; clear HO349; clear HB; have HO329 := n0_; have HO335 := n1_; have HO339 := n2_; have HO345 := n3_; have HO349 := n4_; have HB := n5_; clear n0_ n1_ n2_ n3_ n4_ n5_; (try clear hb); (try clear hb2); (try clear hk); (try clear hi)))
                          go_meet
                          case rel => exact ⟨_, (true), vE, H', ⟨by have := HJ2.out; first | omega | exact Nat.le_refl _⟩, ⟨by (with_reducible repeat (first | apply Kd.R_alloc | apply Kd.R_drewN | apply Kd.R_drew)); exact Kd.R_mono HO329.out (fun _ hk => ⟨hk.1.1.1.2, hk.1.2⟩)⟩, ⟨by (with_reducible repeat (first | apply Kd.R_alloc | apply Kd.R_drewN | apply Kd.R_drew)); exact Kd.R_mono HO335.out (fun _ hk => ⟨hk.1.1.1.2, hk.1.2⟩)⟩, ⟨by (with_reducible repeat (first | apply Kd.R_alloc | apply Kd.R_drewN | apply Kd.R_drew)); exact Kd.R_mono HO345.out (fun _ hk => ⟨hk.1.1.1.2, hk.1.1.2⟩)⟩, ⟨bW⟩⟩
                      · rw [if_neg c34] at H
                        have c34b0 : (t343 == t347) = false := beq_eq_false_iff_ne.mpr c34
                        have c34b1 : (t343 != t347) = true := bne_iff_ne.mpr c34
                        have H' := Aside0.mk H
                        clear H
                        go_wp2_with (first | (go_at_call 14; (with_reducible refine (impl_SameMap.calls kj2 _ _ t332 _ _ t336 true _ ?side1 ?side2 ?side3 ?side4 A30.out).mono ?_); (case side1 => repeat (first | exact (Kd.R_reads' HO335.out).2.2 | (with_reducible refine Kd.C_alloc ?_ _) | (with_reducible refine Kd.C_drewN ?_ _) | (with_reducible refine Kd.C_drew ?_))); (case side2 => exact (Kd.R_reads' HO335.out).2.1); (case side3 => repeat (first | exact (Kd.R_reads' HO339.out).2.2 | (with_reducible refine Kd.C_alloc ?_ _) | (with_reducible refine Kd.C_drewN ?_ _) | (with_reducible refine Kd.C_drew ?_))); (case side4 => exact (Kd.R_reads' HO339.out).2.1); rintro e w51 ⟨rfl, hb⟩; have n0_ := Aside0.mk (Kd.R_below (pR HO329) hb); have n1_ := Aside0.mk (Kd.R_below (pR HO335) hb); have n2_ := Aside0.mk (Kd.R_below (pR HO339) hb); have n3_ := Aside0.mk (Kd.R_below (pR HO345) hb); have n4_ := Aside0.mk (Kd.R_below (pR HO349) hb); have n5_ := Aside0.mk (below_step (w := w) bW hb); clear HO329; clear HO335; clear HO339; clear HO345; clear HO349; clear HB; have HO329 := n0_; have HO335 := n1_; have HO339 := n2_; have HO345 := n3_; have HO349 := n4_; have HB := n5_; clear n0_ n1_ n2_ n3_ n4_ n5_; (try clear hb); (try clear hb2); (try clear hk); (try clear hi)))
                        go_meet
                        case rel => exact ⟨_, (true), vE, H', ⟨by have := HJ2.out; first | omega | exact Nat.le_refl _⟩, ⟨by (with_reducible repeat (first | apply Kd.R_alloc | apply Kd.R_drewN | apply Kd.R_drew)); exact Kd.R_mono HO329.out (fun _ hk => ⟨hk.1.1.1.2, hk.1.2⟩)⟩, ⟨by (with_reducible repeat (first | apply Kd.R_alloc | apply Kd.R_drewN | apply Kd.R_drew)); exact Kd.R_mono HO335.out (fun _ hk => ⟨hk.1.1.1.2, hk.1.2⟩)⟩, ⟨by (with_reducible repeat (first | apply Kd.R_alloc | apply Kd.R_drewN | apply Kd.R_drew)); exact Kd.R_mono HO345.out (fun _ hk => ⟨hk.1.1.1.2, hk.1.1.2⟩)⟩, ⟨bW⟩⟩
                    · rw [if_neg c33] at H
                      have c33b0 : (t340 == t331) = false := beq_eq_false_iff_ne.mpr c33
                      have c33b1 : (t340 != t331) = true := bne_iff_ne.mpr c33
                      have H' := Aside0.mk H
                      clear H
                      go_wp2_with (first | (go_at_call 14; (with_reducible refine (impl_SameMap.calls kj2 _ _ t332 _ _ t336 true _ ?side1 ?side2 ?side3 ?side4 A30.out).mono ?_); (case side1 => repeat (first | exact (Kd.R_reads' HO335.out).2.2 | (with_reducible refine Kd.C_alloc ?_ _) | (with_reducible refine Kd.C_drewN ?_ _) | (with_reducible refine Kd.C_drew ?_))); (case side2 => exact (Kd.R_reads' HO335.out).2.1); (case side3 => repeat (first | exact (Kd.R_reads' HO339.out).2.2 | (with_reducible refine Kd.C_alloc ?_ _) | (with_reducible refine Kd.C_drewN ?_ _) | (with_reducible refine Kd.C_drew ?_))); (case side4 => exact (Kd.R_reads' HO339.out).2.1); rintro e w52 ⟨rfl, hb⟩; have n0_ := Aside0.mk (Kd.R_below (pR HO329) hb); have n1_ := Aside0.mk (Kd.R_below (pR HO335) hb); have n2_ := Aside0.mk (Kd.R_below (pR HO339) hb); have n3_ := Aside0.mk (Kd.R_below (pR HO345) hb); have n4_ := Aside0.mk (Kd.R_below (pR HO349) hb); have n5_ := Aside0.mk (below_step (w := w) bW hb); clear HO329; clear HO335; clear HO339; clear HO345; clear HO349; clear HB; have HO329 := n0_; have HO335 := n1_; have HO339 := n2_; have HO345 := n3_; have HO349 := n4_; have HB := n5_; clear n0_ n1_ n2_ n3_ n4_ n5_; (try clear hb); (try clear hb2); (try clear hk); (try clear hi)))
                      go_meet
                      case rel => exact ⟨_, (true), vE, H', ⟨by have := HJ2.out; first | omega | exact Nat.le_refl _⟩, ⟨by (with_reducible repeat (first | apply Kd.R_alloc | apply Kd.R_drewN | apply Kd.R_drew)); exact Kd.R_mono HO329.out (fun _ hk => ⟨hk.1.1.1.2, hk.1.2⟩)⟩, ⟨by (with_reducible repeat (first | apply Kd.R_alloc | apply Kd.R_drewN | apply Kd.R_drew)); exact Kd.R_mono HO335.out (fun _ hk => ⟨hk.1.1.1.2, hk.1.2⟩)⟩, ⟨by (with_reducible repeat (first | apply Kd.R_alloc | apply Kd.R_drewN | apply Kd.R_drew)); exact Kd.R_mono HO345.out (fun _ hk => ⟨hk.1.1.1.2, hk.1.1.2⟩)⟩, ⟨bW⟩⟩
                  · rw [if_neg c32] at H
                    have c32b0 : (t341 == 0) = false := beq_eq_false_iff_ne.mpr c32
                    have c32b1 : (t341 != 0) = true := bne_iff_ne.mpr c32
                    have H' := Aside0.mk H
                    clear H
                    go_wp2_with (first | (go_at_call 14; (with_reducible refine (impl_SameMap.calls kj2 _ _ t332 _ _ t336 true _ ?side1 ?side2 ?side3 ?side4 A30.out).mono ?_); (case side1 => repeat (first | exact (Kd.R_reads' HO335.out).2.2 | (with_reducible refine Kd.C_alloc ?_ _) | (with_reducible refine Kd.C_drewN ?_ _) | (with_reducible refine Kd.C_drew ?_))); (case side2 => exact (Kd.R_reads' HO335.out).2.1); (case side3 => repeat (first | exact (Kd.R_reads' HO339.out).2.2 | (with_reducible refine Kd.C_alloc ?_ _) | (with_reducible refine Kd.C_drewN ?_ _) | (with_reducible refine Kd.C_drew ?_))); (case side4 => exact (Kd.R_reads' HO339.out).2.1); rintro e w53 ⟨rfl, hb⟩; have n0_ := Aside0.mk (Kd.R_below (pR HO329) hb); have n1_ := Aside0.mk (Kd.R_below (pR HO335) hb); have n2_ := Aside0.mk (Kd.R_below (pR HO339) hb); have n3_ := Aside0.mk (Kd.R_below (pR HO345) hb); have n4_ := Aside0.mk (Kd.R_below (pR HO349) hb); have n5_ := Aside0.mk (below_step (w := w) bW hb); clear HO329; clear HO335; clear HO339; clear HO345; clear HO349; clear HB; have HO329 := n0_; have HO335 := n1_; have HO339 := n2_; have HO345 := n3_; have HO349 := n4_; have HB := n5_; clear n0_ n1_ n2_ n3_ n4_ n5_; (try clear hb); (try clear hb2); (try clear hk); (try clear hi)))
                    go_meet
                    case rel => exact ⟨_, (true), vE, H', ⟨by have := HJ2.out; first | omega | exact Nat.le_refl _⟩, ⟨by (with_reducible repeat (first | apply Kd.R_alloc | apply Kd.R_drewN | apply Kd.R_drew)); exact Kd.R_mono HO329.out (fun _ hk => ⟨hk.1.1.1.2, hk.1.2⟩)⟩, ⟨by (with_reducible repeat (first | apply Kd.R_alloc | apply Kd.R_drewN | apply Kd.R_drew)); exact Kd.R_mono HO335.out (fun _ hk => ⟨hk.1.1.1.2, hk.1.2⟩)⟩, ⟨by (with_reducible repeat (first | apply Kd.R_alloc | apply Kd.R_drewN | apply Kd.R_drew)); exact Kd.R_mono HO345.out (fun _ hk => ⟨hk.1.1.1.2, hk.1.1.2⟩)⟩, ⟨bW⟩⟩
                · replace c31 := Bool.eq_false_iff.mpr c31
                  subst c31
                  have H1 : (laws_FnMaps.j1 kj2 l1 t327 t330 t332 t342 true) = some r := by rw [if_neg (show ¬ (false = true) by decide)] at H; exact H
                  clear H
                  have H := H1
                  clear H1
                  have H' := Aside0.mk H
                  clear H
                  go_wp2_with (first | (go_at_call 14; (with_reducible refine (impl_SameMap.calls kj2 _ _ t332 _ _ t336 false _ ?side1 ?side2 ?side3 ?side4 A30.out).mono ?_); (case side1 => repeat (first | exact (Kd.R_reads' HO335.out).2.2 | (with_reducible refine Kd.C_alloc ?_ _) | (with_reducible refine Kd.C_drewN ?_ _) | (with_reducible refine Kd.C_drew ?_))); (case side2 => exact (Kd.R_reads' HO335.out).2.1); (case side3 => repeat (first | exact (Kd.R_reads' HO339.out).2.2 | (with_reducible refine Kd.C_alloc ?_ _) | (with_reducible refine Kd.C_drewN ?_ _) | (with_reducible refine Kd.C_drew ?_))); (case side4 => exact (Kd.R_reads' HO339.out).2.1); rintro e w54 ⟨rfl, hb⟩; have n0_ := Aside0.mk (Kd.R_below (pR HO329) hb); have n1_ := Aside0.mk (Kd.R_below (pR HO335) hb); have n2_ := Aside0.mk (Kd.R_below (pR HO339) hb); have n3_ := Aside0.mk (Kd.R_below (pR HO345) hb); have n4_ := Aside0.mk (Kd.R_below (pR HO349) hb); have n5_ := Aside0.mk (below_step (w := w) bW hb); clear HO329; clear HO335; clear HO339; clear HO345; clear HO349; clear HB; have HO329 := n0_; have HO335 := n1_; have HO339 := n2_; have HO345 := n3_; have HO349 := n4_; have HB := n5_; clear n0_ n1_ n2_ n3_ n4_ n5_; (try clear hb); (try clear hb2); (try clear hk); (try clear hi)))
                  go_meet
                  case rel => exact ⟨_, (true), vE, H', ⟨by have := HJ2.out; first | omega | exact Nat.le_refl _⟩, ⟨by (with_reducible repeat (first | apply Kd.R_alloc | apply Kd.R_drewN | apply Kd.R_drew)); exact Kd.R_mono HO329.out (fun _ hk => ⟨hk.1.1.1.2, hk.1.2⟩)⟩, ⟨by (with_reducible repeat (first | apply Kd.R_alloc | apply Kd.R_drewN | apply Kd.R_drew)); exact Kd.R_mono HO335.out (fun _ hk => ⟨hk.1.1.1.2, hk.1.2⟩)⟩, ⟨by (with_reducible repeat (first | apply Kd.R_alloc | apply Kd.R_drewN | apply Kd.R_drew)); exact Kd.R_mono HO345.out (fun _ hk => ⟨hk.1.1.1.2, hk.1.1.2⟩)⟩, ⟨bW⟩⟩
              · rw [if_neg c29] at H
                have c29b0 : (t337 == 0) = false := beq_eq_false_iff_ne.mpr c29
                have c29b1 : (t337 != 0) = true := bne_iff_ne.mpr c29
                have H' := Aside0.mk H
                clear H
                go_wp2
                go_meet
                case rel => exact ⟨_, (true), vE, H', ⟨by have := HJ2.out; first | omega | exact Nat.le_refl _⟩, ⟨by (with_reducible repeat (first | apply Kd.R_alloc | apply Kd.R_drewN | apply Kd.R_drew)); exact Kd.R_mono HO329.out (fun _ hk => ⟨hk.1.1.1.2, hk.1.2⟩)⟩, ⟨by (with_reducible repeat (first | apply Kd.R_alloc | apply Kd.R_drewN | apply Kd.R_drew)); exact Kd.R_mono HO335.out (fun _ hk => ⟨hk.1.1.1.2, hk.1.2⟩)⟩, ⟨by (with_reducible repeat (first | apply Kd.R_alloc | apply Kd.R_drewN | apply Kd.R_drew)); exact Kd.R_mono HO345.out (fun _ hk => ⟨hk.1.1.1.2, hk.1.1.2⟩)⟩, ⟨bW⟩⟩
            · rw [if_neg c28] at H
              have c28b0 : (t333 == t337) = false := beq_eq_false_iff_ne.mpr c28
              have c28b1 : (t333 != t337) = true := bne_iff_ne.mpr c28
              (first | rw [c28b0] | (simp only [i64_w, i32_w]; rw [c28b0]) | skip)
              have H' := Aside0.mk H
              clear H
              go_wp2
              go_meet
              case rel => exact ⟨_, (true), vE, H', ⟨by have := HJ2.out; first | omega | exact Nat.le_refl _⟩, ⟨by (with_reducible repeat (first | apply Kd.R_alloc | apply Kd.R_drewN | apply Kd.R_drew)); exact Kd.R_mono HO329.out (fun _ hk => ⟨hk.1.1.1.2, hk.1.2⟩)⟩, ⟨by (with_reducible repeat (first | apply Kd.R_alloc | apply Kd.R_drewN | apply Kd.R_drew)); exact Kd.R_mono HO335.out (fun _ hk => ⟨hk.1.1.1.2, hk.1.2⟩)⟩, ⟨by (with_reducible repeat (first | apply Kd.R_alloc | apply Kd.R_drewN | apply Kd.R_drew)); exact Kd.R_mono HO345.out (fun _ hk => ⟨hk.1.1.1.2, hk.1.1.2⟩)⟩, ⟨bW⟩⟩
         case rest =>
          as_aux_lemma =>
            clear HC15
            try clear c1
            try clear c2
            try clear p2
            try clear c3
            try clear c4
            try clear c4b0
            try clear c4b1
            try clear c5
            try clear c6
            try clear c7
            try clear c8
            try clear c9
            try clear c10
            try clear c11
            try clear c12
            try clear c13
            try clear c28
            try clear c28b0
            try clear c28b1
            try clear c29
            try clear c29b0
            try clear c29b1
            try clear c31
            try clear c32
            try clear c32b0
            try clear c32b1
            try clear c33
            try clear c33b0
            try clear c33b1
            try clear c34
            try clear c34b0
            try clear c34b1
            try clear c35
            try clear c35b0
            try clear c35b1
            try clear c37
            try clear c38
            try clear c38b0
            try clear c38b1
            try clear p2
            obtain ⟨kq, x130_14, rfl, HA, HJ14, HO_5, HO_8, HO_14, HB⟩ := hcut
            cases kq with
            | zero => exact absurd HA.out (by simp [laws_FnMaps.j1])
            | succ kj14 =>
              have H := HA.out
              clear HA
              simp only [laws_FnMaps.j1] at H
              by_cases c55 : x130_14 = true
              · subst c55
                have H1 : (some false) = some r := by rw [if_pos rfl] at H; exact H
                clear H
                have H := H1
                clear H1
                obtain rfl := Option.some.inj H
                go_wp2
                go_ret
                exact ⟨rE, bW⟩
              · replace c55 := Bool.eq_false_iff.mpr c55
                subst c55
                have H1 : (laws_FnMaps.l0 kj14 l1 t327 t330 t332 t342 0) = some r := by rw [if_neg (show ¬ (false = true) by decide)] at H; exact H
                clear H
                have H := H1
                clear H1
                have H' := Aside0.mk H
                clear H
                go_wp2
                go_loopg [20] kj14 (fun kq v20 w' => ∃ (x20_3 : Int), v20 = .int .i64 x20_3 ∧ Aside0 (laws_FnMaps.l0 kq l1 t327 t330 t332 t342 x20_3 = some r) ∧ Aside0 (kq ≤ kj14) ∧ Aside0 (Kd.R k35 35 w' w.heap.size (fun k_ => some k_ ≠ ((.slice Ao21 t332.length co21) : Value).ownBlock ∧ some k_ ≠ ((.slice Ao26 t342.length co26) : Value).ownBlock) (.slice Ao18 t327.length co18) t327) ∧ Aside0 (Kd.R k35 35 w' w.heap.size (fun k_ => some k_ ≠ ((.slice Ao18 t327.length co18) : Value).ownBlock ∧ some k_ ≠ ((.slice Ao26 t342.length co26) : Value).ownBlock) (.slice Ao21 t332.length co21) t332) ∧ Aside0 (Kd.R k35 35 w' w.heap.size (fun k_ => some k_ ≠ ((.slice Ao18 t327.length co18) : Value).ownBlock ∧ some k_ ≠ ((.slice Ao21 t332.length co21) : Value).ownBlock) (.slice Ao26 t342.length co26) t342) ∧ Aside0 (Below w.heap.size w w'))
                case atStart => exact ⟨(0), vE, H', ⟨Nat.le_refl _⟩, ⟨by (with_reducible repeat (first | apply Kd.R_alloc | apply Kd.R_drewN | apply Kd.R_drew)); exact HO_5.out⟩, ⟨by (with_reducible repeat (first | apply Kd.R_alloc | apply Kd.R_drewN | apply Kd.R_drew)); exact HO_8.out⟩, ⟨by (with_reducible repeat (first | apply Kd.R_alloc | apply Kd.R_drewN | apply Kd.R_drew)); exact HO_14.out⟩, ⟨bW⟩⟩
                case round =>
                 as_aux_lemma =>
                   clear H'
                   try clear c1
                   try clear c2
                   try clear p2
                   try clear c3
                   try clear c4
                   try clear c4b0
                   try clear c4b1
                   try clear c5
                   try clear c6
                   try clear c7
                   try clear c8
                   try clear c9
                   try clear c10
                   try clear c11
                   try clear c12
                   try clear c13
                   try clear c28
                   try clear c28b0
                   try clear c28b1
                   try clear c29
                   try clear c29b0
                   try clear c29b1
                   try clear c31
                   try clear c32
                   try clear c32b0
                   try clear c32b1
                   try clear c33
                   try clear c33b0
                   try clear c33b1
                   try clear c34
                   try clear c34b0
                   try clear c34b1
                   try clear c35
                   try clear c35b0
                   try clear c35b1
                   try clear c37
                   try clear c38
                   try clear c38b0
                   try clear c38b1
                   try clear c55
                   try clear p2
                   obtain ⟨x20_3, rfl, HA, HK3, HO_5, HO_8, HO_14, HB⟩ := hrel
                   cases gk with
                   | zero => exact absurd HA.out (by simp [laws_FnMaps.l0])
                   | succ k3 =>
                     have H := HA.out
                     clear HA
                     simp only [laws_FnMaps.l0] at H
                     by_cases c56 : x20_3 < (t327.length : Int)
                     · rw [if_pos c56] at H
                       have c56b0 : decide (x20_3 < (t327.length : Int)) = true := decide_eq_true c56
                       clear c56
                       by_cases c57 : 0 ≤ x20_3
                       · rw [if_pos c57] at H
                         have c57b0 : decide (0 ≤ x20_3) = true := decide_eq_true c57
                         clear c57
                         by_cases c58 : ((rd_T35 t327 x20_3).f0).toList = t330.toList
                         · rw [if_pos c58] at H
                           have c58b0 : (((rd_T35 t327 x20_3).f0).toList == t330.toList) = true := beq_iff_eq.mpr c58
                           have c58b1 : (((rd_T35 t327 x20_3).f0).toList != t330.toList) = false := bne_eq_false_iff_eq.mpr c58
                           clear c58
                           have H' := Aside0.mk H
                           clear H
                           have p355 : 0 ≤ (x20_3 : Int) := odt
                           have q355 : x20_3 < (t327.length : Int) := odt
                           obtain ⟨ad355, e355, hx355_0, hx355_1⟩ := at_T35 (Kd.R_reads' HO_5.out).2.2 x20_3 p355 q355
                           cases e355
                           replace p355 := eq_true p355
                           replace q355 := eq_true q355
                           go_wp2
                           go_roundg k3
                           case measure => have := HJ2.out; have := HJ14.out; have := HK3.out; omega
                           case rel => exact ⟨(wrap64 (x20_3 + 1)), vE, H', ⟨by have := HJ2.out; have := HJ14.out; have := HK3.out; omega⟩, ⟨by (with_reducible repeat (first | apply Kd.R_alloc | apply Kd.R_drewN | apply Kd.R_drew)); exact HO_5.out⟩, ⟨by (with_reducible repeat (first | apply Kd.R_alloc | apply Kd.R_drewN | apply Kd.R_drew)); exact HO_8.out⟩, ⟨by (with_reducible repeat (first | apply Kd.R_alloc | apply Kd.R_drewN | apply Kd.R_drew)); exact HO_14.out⟩, ⟨bW⟩⟩
                         · rw [if_neg c58] at H
                           have c58b0 : (((rd_T35 t327 x20_3).f0).toList == t330.toList) = false := beq_eq_false_iff_ne.mpr c58
                           have c58b1 : (((rd_T35 t327 x20_3).f0).toList != t330.toList) = true := bne_iff_ne.mpr c58
                           replace H := Option.bind_eq_some_iff.mp H
                           obtain ⟨⟨t357, t358⟩, A590, H⟩ := H
                           replace H : ((impl_Get.f k3 t342 ((rd_T35 t327 x20_3).f0)).bind fun bt360 => (if t358 = 0 then (if bt360.2 = 0 then (if t357 = ((rd_T35 t327 x20_3).f1) then (if bt360.1 = ((rd_T35 t327 x20_3).f1) then (laws_FnMaps.l0 k3 l1 t327 t330 t332 t342 (wrap64 (x20_3 + 1))) else (some false)) else (some false)) else (some false)) else (some false))) = some r := H
                           have A59 := Aside0.mk A590
                           clear A590
                           replace H := Option.bind_eq_some_iff.mp H
                           obtain ⟨⟨t360, t361⟩, A600, H⟩ := H
                           replace H : (if t358 = 0 then (if t361 = 0 then (if t357 = ((rd_T35 t327 x20_3).f1) then (if t360 = ((rd_T35 t327 x20_3).f1) then (laws_FnMaps.l0 k3 l1 t327 t330 t332 t342 (wrap64 (x20_3 + 1))) else (some false)) else (some false)) else (some false)) else (some false)) = some r := H
                           have A60 := Aside0.mk A600
                           clear A600
                           by_cases c61 : t358 = 0
                           · rw [if_pos c61] at H
                             have c61b0 : (t358 == 0) = true := beq_iff_eq.mpr c61
                             have c61b1 : (t358 != 0) = false := bne_eq_false_iff_eq.mpr c61
                             clear c61
                             by_cases c62 : t361 = 0
                             · rw [if_pos c62] at H
                               have c62b0 : (t361 == 0) = true := beq_iff_eq.mpr c62
                               have c62b1 : (t361 != 0) = false := bne_eq_false_iff_eq.mpr c62
                               clear c62
                               by_cases c63 : t357 = ((rd_T35 t327 x20_3).f1)
                               · rw [if_pos c63] at H
                                 have c63b0 : (t357 == ((rd_T35 t327 x20_3).f1)) = true := beq_iff_eq.mpr c63
                                 have c63b1 : (t357 != ((rd_T35 t327 x20_3).f1)) = false := bne_eq_false_iff_eq.mpr c63
                                 clear c63
                                 by_cases c64 : t360 = ((rd_T35 t327 x20_3).f1)
                                 · rw [if_pos c64] at H
                                   have c64b0 : (t360 == ((rd_T35 t327 x20_3).f1)) = true := beq_iff_eq.mpr c64
                                   have c64b1 : (t360 != ((rd_T35 t327 x20_3).f1)) = false := bne_eq_false_iff_eq.mpr c64
                                   clear c64
                                   have H' := Aside0.mk H
                                   clear H
                                   have p355 : 0 ≤ (x20_3 : Int) := odt
                                   have q355 : x20_3 < (t327.length : Int) := odt
                                   obtain ⟨ad355, e355, hx355_0, hx355_1⟩ := at_T35 (Kd.R_reads' HO_5.out).2.2 x20_3 p355 q355
                                   cases e355
                                   replace p355 := eq_true p355
                                   replace q355 := eq_true q355
                                   have p356 : 0 ≤ (x20_3 : Int) := odt
                                   have q356 : x20_3 < (t327.length : Int) := odt
                                   obtain ⟨ad356, e356, hx356_0, hx356_1⟩ := at_T35 (Kd.R_reads' HO_5.out).2.2 x20_3 p356 q356
                                   obtain rfl : ad355 = ad356 := (by injection e356)
                                   replace p356 := eq_true p356
                                   replace q356 := eq_true q356
                                   go_wp2_with (first | ((with_reducible refine gate_callee (f := 11) rfl ?_); refine goesL_ (some 151) rfl rfl Try.func11 (by kernel_rfl) rfl #[.slice Ao21 t332.length co21, .string ((rd_T35 t327 x20_3).f0)] rfl gA ?_; (with_reducible refine (impl_Get.calls k3 _ _ t332 ((rd_T35 t327 x20_3).f0) t357 t358 _ ?side1 ?side2 A59.out).mono ?_); (case side1 => repeat (first | exact (Kd.R_reads' HO_8.out).2.2 | (with_reducible refine Kd.C_alloc ?_ _) | (with_reducible refine Kd.C_drewN ?_ _) | (with_reducible refine Kd.C_drew ?_))); (case side2 => exact (Kd.R_reads' HO_8.out).2.1); rintro e w65 ⟨rfl, hb⟩; refine ⟨_, rfl, ?_⟩; have n0_ := Aside0.mk (Kd.R_below (pR HO_5) hb); have n1_ := Aside0.mk (Kd.R_below (pR HO_8) hb); have n2_ := Aside0.mk (Kd.R_below (pR HO_14) hb); have n3_ := Aside0.mk (below_step (w := w) bW hb); clear HO_5; clear HO_8; clear HO_14; clear HB; have HO_5 := n0_; have HO_8 := n1_; have HO_14 := n2_; have HB := n3_; clear n0_ n1_ n2_ n3_; (try clear hb); (try clear hb2); (try clear hk); (try clear hi); have p359 : 0 ≤ (x20_3 : Int) := odt; have q359 : x20_3 < (t327.length : Int) := odt; obtain ⟨ad359, e359, hx359_0, hx359_1⟩ := at_T35 (Kd.R_reads' HO_5.out).2.2 x20_3 p359 q359; obtain rfl : ad355 = ad359 := (by injection e359); replace p359 := eq_true p359; replace q359 := eq_true q359) | ((with_reducible refine gate_callee (f := 11) rfl ?_); refine goesL_ (some 161) rfl rfl Try.func11 (by kernel_rfl) rfl #[.slice Ao26 t342.length co26, .string ((rd_T35 t327 x20_3).f0)] rfl gA ?_; (with_reducible refine (impl_Get.calls k3 _ _ t342 ((rd_T35 t327 x20_3).f0) t360 t361 _ ?side1 ?side2 A60.out).mono ?_); (case side1 => repeat (first | exact (Kd.R_reads' HO_14.out).2.2 | (with_reducible refine Kd.C_alloc ?_ _) | (with_reducible refine Kd.C_drewN ?_ _) | (with_reducible refine Kd.C_drew ?_))); (case side2 => exact (Kd.R_reads' HO_14.out).2.1); rintro e w66 ⟨rfl, hb⟩; refine ⟨_, rfl, ?_⟩; have n0_ := Aside0.mk (Kd.R_below (pR HO_5) hb); have n1_ := Aside0.mk (Kd.R_below (pR HO_8) hb); have n2_ := Aside0.mk (Kd.R_below (pR HO_14) hb); have n3_ := Aside0.mk (below_step (w := w) bW hb); clear HO_5; clear HO_8; clear HO_14; clear HB; have HO_5 := n0_; have HO_8 := n1_; have HO_14 := n2_; have HB := n3_; clear n0_ n1_ n2_ n3_; (try clear hb); (try clear hb2); (try clear hk); (try clear hi); have p362 : 0 ≤ (x20_3 : Int) := odt; have q362 : x20_3 < (t327.length : Int) := odt; obtain ⟨ad362, e362, hx362_0, hx362_1⟩ := at_T35 (Kd.R_reads' HO_5.out).2.2 x20_3 p362 q362; obtain rfl : ad355 = ad362 := (by injection e362); replace p362 := eq_true p362; replace q362 := eq_true q362; have p363 : 0 ≤ (x20_3 : Int) := odt; have q363 : x20_3 < (t327.length : Int) := odt; obtain ⟨ad363, e363, hx363_0, hx363_1⟩ := at_T35 (Kd.R_reads' HO_5.out).2.2 x20_3 p363 q363; obtain rfl : ad355 = ad363 := (by injection e363); replace p363 := eq_true p363; replace q363 := eq_true q363))
                                   go_roundg k3
                                   case measure => have := HJ2.out; have := HJ14.out; have := HK3.out; omega
                                   case rel => exact ⟨(wrap64 (x20_3 + 1)), vE, H', ⟨by have := HJ2.out; have := HJ14.out; have := HK3.out; omega⟩, ⟨by (with_reducible repeat (first | apply Kd.R_alloc | apply Kd.R_drewN | apply Kd.R_drew)); exact HO_5.out⟩, ⟨by (with_reducible repeat (first | apply Kd.R_alloc | apply Kd.R_drewN | apply Kd.R_drew)); exact HO_8.out⟩, ⟨by (with_reducible repeat (first | apply Kd.R_alloc | apply Kd.R_drewN | apply Kd.R_drew)); exact HO_14.out⟩, ⟨bW⟩⟩
                                 · rw [if_neg c64] at H
                                   have c64b0 : (t360 == ((rd_T35 t327 x20_3).f1)) = false := beq_eq_false_iff_ne.mpr c64
                                   have c64b1 : (t360 != ((rd_T35 t327 x20_3).f1)) = true := bne_iff_ne.mpr c64
                                   obtain rfl := Option.some.inj H
                                   have p355 : 0 ≤ (x20_3 : Int) := odt
                                   have q355 : x20_3 < (t327.length : Int) := odt
                                   obtain ⟨ad355, e355, hx355_0, hx355_1⟩ := at_T35 (Kd.R_reads' HO_5.out).2.2 x20_3 p355 q355
                                   cases e355
                                   replace p355 := eq_true p355
                                   replace q355 := eq_true q355
                                   have p356 : 0 ≤ (x20_3 : Int) := odt
                                   have q356 : x20_3 < (t327.length : Int) := odt
                                   obtain ⟨ad356, e356, hx356_0, hx356_1⟩ := at_T35 (Kd.R_reads' HO_5.out).2.2 x20_3 p356 q356
                                   obtain rfl : ad355 = ad356 := (by injection e356)
                                   replace p356 := eq_true p356
                                   replace q356 := eq_true q356
                                   go_wp2_with (first | ((with_reducible refine gate_callee (f := 11) rfl ?_); refine goesL_ (some 151) rfl rfl Try.func11 (by kernel_rfl) rfl #[.slice Ao21 t332.length co21, .string ((rd_T35 t327 x20_3).f0)] rfl gA ?_; (with_reducible refine (impl_Get.calls k3 _ _ t332 ((rd_T35 t327 x20_3).f0) t357 t358 _ ?side1 ?side2 A59.out).mono ?_); (case side1 => repeat (first | exact (Kd.R_reads' HO_8.out).2.2 | (with_reducible refine Kd.C_alloc ?_ _) | (with_reducible refine Kd.C_drewN ?_ _) | (with_reducible refine Kd.C_drew ?_))); (case side2 => exact (Kd.R_reads' HO_8.out).2.1); rintro e w67 ⟨rfl, hb⟩; refine ⟨_, rfl, ?_⟩; have n0_ := Aside0.mk (Kd.R_below (pR HO_5) hb); have n1_ := Aside0.mk (Kd.R_below (pR HO_8) hb); have n2_ := Aside0.mk (Kd.R_below (pR HO_14) hb); have n3_ := Aside0.mk (below_step (w := w) bW hb); clear HO_5; clear HO_8; clear HO_14; clear HB; have HO_5 := n0_; have HO_8 := n1_; have HO_14 := n2_; have HB := n3_; clear n0_ n1_ n2_ n3_; (try clear hb); (try clear hb2); (try clear hk); (try clear hi); have p359 : 0 ≤ (x20_3 : Int) := odt; have q359 : x20_3 < (t327.length : Int) := odt; obtain ⟨ad359, e359, hx359_0, hx359_1⟩ := at_T35 (Kd.R_reads' HO_5.out).2.2 x20_3 p359 q359; obtain rfl : ad355 = ad359 := (by injection e359); replace p359 := eq_true p359; replace q359 := eq_true q359) | ((with_reducible refine gate_callee (f := 11) rfl ?_); refine goesL_ (some 161) rfl rfl Try.func11 (by kernel_rfl) rfl #[.slice Ao26 t342.length co26, .string ((rd_T35 t327 x20_3).f0)] rfl gA ?_; (with_reducible refine (impl_Get.calls k3 _ _ t342 ((rd_T35 t327 x20_3).f0) t360 t361 _ ?side1 ?side2 A60.out).mono ?_); (case side1 => repeat (first | exact (Kd.R_reads' HO_14.out).2.2 | (with_reducible refine Kd.C_alloc ?_ _) | (with_reducible refine Kd.C_drewN ?_ _) | (with_reducible refine Kd.C_drew ?_))); (case side2 => exact (Kd.R_reads' HO_14.out).2.1); rintro e w68 ⟨rfl, hb⟩; refine ⟨_, rfl, ?_⟩; have n0_ := Aside0.mk (Kd.R_below (pR HO_5) hb); have n1_ := Aside0.mk (Kd.R_below (pR HO_8) hb); have n2_ := Aside0.mk (Kd.R_below (pR HO_14) hb); have n3_ := Aside0.mk (below_step (w := w) bW hb); clear HO_5; clear HO_8; clear HO_14; clear HB; have HO_5 := n0_; have HO_8 := n1_; have HO_14 := n2_; have HB := n3_; clear n0_ n1_ n2_ n3_; (try clear hb); (try clear hb2); (try clear hk); (try clear hi); have p362 : 0 ≤ (x20_3 : Int) := odt; have q362 : x20_3 < (t327.length : Int) := odt; obtain ⟨ad362, e362, hx362_0, hx362_1⟩ := at_T35 (Kd.R_reads' HO_5.out).2.2 x20_3 p362 q362; obtain rfl : ad355 = ad362 := (by injection e362); replace p362 := eq_true p362; replace q362 := eq_true q362; have p363 : 0 ≤ (x20_3 : Int) := odt; have q363 : x20_3 < (t327.length : Int) := odt; obtain ⟨ad363, e363, hx363_0, hx363_1⟩ := at_T35 (Kd.R_reads' HO_5.out).2.2 x20_3 p363 q363; obtain rfl : ad355 = ad363 := (by injection e363); replace p363 := eq_true p363; replace q363 := eq_true q363))
                                   go_ret
                                   exact ⟨rE, bW⟩
                               · rw [if_neg c63] at H
                                 have c63b0 : (t357 == ((rd_T35 t327 x20_3).f1)) = false := beq_eq_false_iff_ne.mpr c63
                                 have c63b1 : (t357 != ((rd_T35 t327 x20_3).f1)) = true := bne_iff_ne.mpr c63
                                 obtain rfl := Option.some.inj H
                                 have p355 : 0 ≤ (x20_3 : Int) := odt
                                 have q355 : x20_3 < (t327.length : Int) := odt
                                 obtain ⟨ad355, e355, hx355_0, hx355_1⟩ := at_T35 (Kd.R_reads' HO_5.out).2.2 x20_3 p355 q355
                                 cases e355
                                 replace p355 := eq_true p355
                                 replace q355 := eq_true q355
                                 have p356 : 0 ≤ (x20_3 : Int) := odt
                                 have q356 : x20_3 < (t327.length : Int) := odt
                                 obtain ⟨ad356, e356, hx356_0, hx356_1⟩ := at_T35 (Kd.R_reads' HO_5.out).2.2 x20_3 p356 q356
                                 obtain rfl : ad355 = ad356 := (by injection e356)
                                 replace p356 := eq_true p356
                                 replace q356 := eq_true q356
                                 go_wp2_with (first | ((with_reducible refine gate_callee (f := 11) rfl ?_); refine goesL_ (some 151) rfl rfl Try.func11 (by kernel_rfl) rfl #[.slice Ao21 t332.length co21, .string ((rd_T35 t327 x20_3).f0)] rfl gA ?_; (with_reducible refine (impl_Get.calls k3 _ _ t332 ((rd_T35 t327 x20_3).f0) t357 t358 _ ?side1 ?side2 A59.out).mono ?_); (case side1 => repeat (first | exact (Kd.R_reads' HO_8.out).2.2 | (with_reducible refine Kd.C_alloc ?_ _) | (with_reducible refine Kd.C_drewN ?_ _) | (with_reducible refine Kd.C_drew ?_))); (case side2 => exact (Kd.R_reads' HO_8.out).2.1); rintro e w69 ⟨rfl, hb⟩; refine ⟨_, rfl, ?_⟩; have n0_ := Aside0.mk (Kd.R_below (pR HO_5) hb); have n1_ := Aside0.mk (Kd.R_below (pR HO_8) hb); have n2_ := Aside0.mk (Kd.R_below (pR HO_14) hb); have n3_ := Aside0.mk (below_step (w := w) bW hb); clear HO_5; clear HO_8; clear HO_14; clear HB; have HO_5 := n0_; have HO_8 := n1_; have HO_14 := n2_; have HB := n3_; clear n0_ n1_ n2_ n3_; (try clear hb); (try clear hb2); (try clear hk); (try clear hi); have p359 : 0 ≤ (x20_3 : Int) := odt; have q359 : x20_3 < (t327.length : Int) := odt; obtain ⟨ad359, e359, hx359_0, hx359_1⟩ := at_T35 (Kd.R_reads' HO_5.out).2.2 x20_3 p359 q359; obtain rfl : ad355 = ad359 := (by injection e359); replace p359 := eq_true p359; replace q359 := eq_true q359) | ((with_reducible refine gate_callee (f := 11) rfl ?_); refine goesL_ (some 161) rfl rfl Try.func11 (by kernel_rfl) rfl #[.slice Ao26 t342.length co26, .string ((rd_T35 t327 x20_3).f0)] rfl gA ?_; (with_reducible refine (impl_Get.calls k3 _ _ t342 ((rd_T35 t327 x20_3).f0) t360 t361 _ ?side1 ?side2 A60.out).mono ?_); (case side1 => repeat (first | exact (Kd.R_reads' HO_14.out).2.2 | (with_reducible refine Kd.C_alloc ?_ _) | (with_reducible refine Kd.C_drewN ?_ _) | (with_reducible refine Kd.C_drew ?_))); (case side2 => exact (Kd.R_reads' HO_14.out).2.1); rintro e w70 ⟨rfl, hb⟩; refine ⟨_, rfl, ?_⟩; have n0_ := Aside0.mk (Kd.R_below (pR HO_5) hb); have n1_ := Aside0.mk (Kd.R_below (pR HO_8) hb); have n2_ := Aside0.mk (Kd.R_below (pR HO_14) hb); have n3_ := Aside0.mk (below_step (w := w) bW hb); clear HO_5; clear HO_8; clear HO_14; clear HB; have HO_5 := n0_; have HO_8 := n1_; have HO_14 := n2_; have HB := n3_; clear n0_ n1_ n2_ n3_; (try clear hb); (try clear hb2); (try clear hk); (try clear hi); have p362 : 0 ≤ (x20_3 : Int) := odt; have q362 : x20_3 < (t327.length : Int) := odt; obtain ⟨ad362, e362, hx362_0, hx362_1⟩ := at_T35 (Kd.R_reads' HO_5.out).2.2 x20_3 p362 q362; obtain rfl : ad355 = ad362 := (by injection e362); replace p362 := eq_true p362; replace q362 := eq_true q362))
                                 go_ret
                                 exact ⟨rE, bW⟩
                             · rw [if_neg c62] at H
                               have c62b0 : (t361 == 0) = false := beq_eq_false_iff_ne.mpr c62
                               have c62b1 : (t361 != 0) = true := bne_iff_ne.mpr c62
                               obtain rfl := Option.some.inj H
                               have p355 : 0 ≤ (x20_3 : Int) := odt
                               have q355 : x20_3 < (t327.length : Int) := odt
                               obtain ⟨ad355, e355, hx355_0, hx355_1⟩ := at_T35 (Kd.R_reads' HO_5.out).2.2 x20_3 p355 q355
                               cases e355
                               replace p355 := eq_true p355
                               replace q355 := eq_true q355
                               have p356 : 0 ≤ (x20_3 : Int) := odt
                               have q356 : x20_3 < (t327.length : Int) := odt
                               obtain ⟨ad356, e356, hx356_0, hx356_1⟩ := at_T35 (Kd.R_reads' HO_5.out).2.2 x20_3 p356 q356
                               obtain rfl : ad355 = ad356 := (by injection e356)
                               replace p356 := eq_true p356
                               replace q356 := eq_true q356
                               go_wp2_with (first | ((with_reducible refine gate_callee (f := 11) rfl ?_); refine goesL_ (some 151) rfl rfl Try.func11 (by kernel_rfl) rfl #[.slice Ao21 t332.length co21, .string ((rd_T35 t327 x20_3).f0)] rfl gA ?_; (with_reducible refine (impl_Get.calls k3 _ _ t332 ((rd_T35 t327 x20_3).f0) t357 t358 _ ?side1 ?side2 A59.out).mono ?_); (case side1 => repeat (first | exact (Kd.R_reads' HO_8.out).2.2 | (with_reducible refine Kd.C_alloc ?_ _) | (with_reducible refine Kd.C_drewN ?_ _) | (with_reducible refine Kd.C_drew ?_))); (case side2 => exact (Kd.R_reads' HO_8.out).2.1); rintro e w71 ⟨rfl, hb⟩; refine ⟨_, rfl, ?_⟩; have n0_ := Aside0.mk (Kd.R_below (pR HO_5) hb); have n1_ := Aside0.mk (Kd.R_below (pR HO_8) hb); have n2_ := Aside0.mk (Kd.R_below (pR HO_14) hb); have n3_ := Aside0.mk (below_step (w := w) bW hb); clear HO_5; clear HO_8; clear HO_14; clear HB; have HO_5 := n0_; have HO_8 := n1_; have HO_14 := n2_; have HB := n3_; clear n0_ n1_ n2_ n3_; (try clear hb); (try clear hb2); (try clear hk); (try clear hi); have p359 : 0 ≤ (x20_3 : Int) := odt; have q359 : x20_3 < (t327.length : Int) := odt; obtain ⟨ad359, e359, hx359_0, hx359_1⟩ := at_T35 (Kd.R_reads' HO_5.out).2.2 x20_3 p359 q359; obtain rfl : ad355 = ad359 := (by injection e359); replace p359 := eq_true p359; replace q359 := eq_true q359) | ((with_reducible refine gate_callee (f := 11) rfl ?_); refine goesL_ (some 161) rfl rfl Try.func11 (by kernel_rfl) rfl #[.slice Ao26 t342.length co26, .string ((rd_T35 t327 x20_3).f0)] rfl gA ?_; (with_reducible refine (impl_Get.calls k3 _ _ t342 ((rd_T35 t327 x20_3).f0) t360 t361 _ ?side1 ?side2 A60.out).mono ?_); (case side1 => repeat (first | exact (Kd.R_reads' HO_14.out).2.2 | (with_reducible refine Kd.C_alloc ?_ _) | (with_reducible refine Kd.C_drewN ?_ _) | (with_reducible refine Kd.C_drew ?_))); (case side2 => exact (Kd.R_reads' HO_14.out).2.1); rintro e w72 ⟨rfl, hb⟩; refine ⟨_, rfl, ?_⟩; have n0_ := Aside0.mk (Kd.R_below (pR HO_5) hb); have n1_ := Aside0.mk (Kd.R_below (pR HO_8) hb); have n2_ := Aside0.mk (Kd.R_below (pR HO_14) hb); have n3_ := Aside0.mk (below_step (w := w) bW hb); clear HO_5; clear HO_8; clear HO_14; clear HB; have HO_5 := n0_; have HO_8 := n1_; have HO_14 := n2_; have HB := n3_; clear n0_ n1_ n2_ n3_; (try clear hb); (try clear hb2); (try clear hk); (try clear hi)))
                               go_ret
                               exact ⟨rE, bW⟩
                           · rw [if_neg c61] at H
                             have c61b0 : (t358 == 0) = false := beq_eq_false_iff_ne.mpr c61
                             have c61b1 : (t358 != 0) = true := bne_iff_ne.mpr c61
                             obtain rfl := Option.some.inj H
                             have p355 : 0 ≤ (x20_3 : Int) := odt
                             have q355 : x20_3 < (t327.length : Int) := odt
                             obtain ⟨ad355, e355, hx355_0, hx355_1⟩ := at_T35 (Kd.R_reads' HO_5.out).2.2 x20_3 p355 q355
                             cases e355
                             replace p355 := eq_true p355
                             replace q355 := eq_true q355
                             have p356 : 0 ≤ (x20_3 : Int) := odt
                             have q356 : x20_3 < (t327.length : Int) := odt
                             obtain ⟨ad356, e356, hx356_0, hx356_1⟩ := at_T35 (Kd.R_reads' HO_5.out).2.2 x20_3 p356 q356
                             obtain rfl : ad355 = ad356 := (by injection e356)
                             replace p356 := eq_true p356
                             replace q356 := eq_true q356
                             go_wp2_with (first | ((with_reducible refine gate_callee (f := 11) rfl ?_); refine goesL_ (some 151) rfl rfl Try.func11 (by kernel_rfl) rfl #[.slice Ao21 t332.length co21, .string ((rd_T35 t327 x20_3).f0)] rfl gA ?_; (with_reducible refine (impl_Get.calls k3 _ _ t332 ((rd_T35 t327 x20_3).f0) t357 t358 _ ?side1 ?side2 A59.out).mono ?_); (case side1 => repeat (first | exact (Kd.R_reads' HO_8.out).2.2 | (with_reducible refine Kd.C_alloc ?_ _) | (with_reducible refine Kd.C_drewN ?_ _) | (with_reducible refine Kd.C_drew ?_))); (case side2 => exact (Kd.R_reads' HO_8.out).2.1); rintro e w73 ⟨rfl, hb⟩; refine ⟨_, rfl, ?_⟩; have n0_ := Aside0.mk (Kd.R_below (pR HO_5) hb); have n1_ := Aside0.mk (Kd.R_below (pR HO_8) hb); have n2_ := Aside0.mk (Kd.R_below (pR HO_14) hb); have n3_ := Aside0.mk (below_step (w := w) bW hb); clear HO_5; clear HO_8; clear HO_14; clear HB; have HO_5 := n0_; have HO_8 := n1_; have HO_14 := n2_; have HB := n3_; clear n0_ n1_ n2_ n3_; (try clear hb); (try clear hb2); (try clear hk); (try clear hi); have p359 : 0 ≤ (x20_3 : Int) := odt; have q359 : x20_3 < (t327.length : Int) := odt; obtain ⟨ad359, e359, hx359_0, hx359_1⟩ := at_T35 (Kd.R_reads' HO_5.out).2.2 x20_3 p359 q359; obtain rfl : ad355 = ad359 := (by injection e359); replace p359 := eq_true p359; replace q359 := eq_true q359) | ((with_reducible refine gate_callee (f := 11) rfl ?_); refine goesL_ (some 161) rfl rfl Try.func11 (by kernel_rfl) rfl #[.slice Ao26 t342.length co26, .string ((rd_T35 t327 x20_3).f0)] rfl gA ?_; (with_reducible refine (impl_Get.calls k3 _ _ t342 ((rd_T35 t327 x20_3).f0) t360 t361 _ ?side1 ?side2 A60.out).mono ?_); (case side1 => repeat (first | exact (Kd.R_reads' HO_14.out).2.2 | (with_reducible refine Kd.C_alloc ?_ _) | (with_reducible refine Kd.C_drewN ?_ _) | (with_reducible refine Kd.C_drew ?_))); (case side2 => exact (Kd.R_reads' HO_14.out).2.1); rintro e w74 ⟨rfl, hb⟩; refine ⟨_, rfl, ?_⟩; have n0_ := Aside0.mk (Kd.R_below (pR HO_5) hb); have n1_ := Aside0.mk (Kd.R_below (pR HO_8) hb); have n2_ := Aside0.mk (Kd.R_below (pR HO_14) hb); have n3_ := Aside0.mk (below_step (w := w) bW hb); clear HO_5; clear HO_8; clear HO_14; clear HB; have HO_5 := n0_; have HO_8 := n1_; have HO_14 := n2_; have HB := n3_; clear n0_ n1_ n2_ n3_; (try clear hb); (try clear hb2); (try clear hk); (try clear hi)))
                             go_ret
                             exact ⟨rE, bW⟩
                       · rw [if_neg c57] at H
                         exact absurd H (by simp)
                     · rw [if_neg c56] at H
                       have c56b0 : decide (x20_3 < (t327.length : Int)) = false := decide_eq_false c56
                       clear c56
                       obtain ⟨y364, hy364⟩ : ∃ y_ : List ByteArray, y_ = (([(⟨#[]⟩ : ByteArray), (⟨#[98]⟩ : ByteArray), (⟨#[107]⟩ : ByteArray)] : List ByteArray)) := ⟨_, rfl⟩
                       replace H : ((laws_at.f l1 1 3).bind fun t367 => (if 0 ≤ t367 then (if t367 < (y364.length : Int) then ((some (([(⟨#[]⟩ : ByteArray), (⟨#[99]⟩ : ByteArray), (⟨#[107, 50]⟩ : ByteArray)] : List ByteArray) : List ByteArray)).bind fun y369 => ((laws_at.f l1 2 3).bind fun t372 => (if 0 ≤ t372 then (if t372 < (y369.length : Int) then ((impl_Scan.f k3 t327 (rdOf ByteArray.empty y364 t367) (rdOf ByteArray.empty y369 t372)).bind fun bt374 => ((spec_Scan.f k3 t327 (rdOf ByteArray.empty y364 t367) (rdOf ByteArray.empty y369 t372)).bind fun bt378 => (laws_FnMaps.l1 k3 t327 (rdOf ByteArray.empty y364 t367) (rdOf ByteArray.empty y369 t372) bt374.1 bt374.2 bt378.1 0 0))) else (none)) else (none)))) else (none)) else (none))) = some r := by first | (rw [hy364]; with_reducible exact H) | (have H2_ := (Option.bind_some _ _).symm.trans H; rw [hy364]; with_reducible exact H2_) | (have H2_ := (Option.bind_some _ _).symm.trans H; with_reducible exact H2_) | with_reducible exact H | (rw [hy364]; exact H) | exact H
                       have Ny364 := Aside0.mk hy364
                       clear hy364
                       replace H := Option.bind_eq_some_iff.mp H
                       obtain ⟨t367, A750, H⟩ := H
                       replace H : (if 0 ≤ t367 then (if t367 < (y364.length : Int) then ((some (([(⟨#[]⟩ : ByteArray), (⟨#[99]⟩ : ByteArray), (⟨#[107, 50]⟩ : ByteArray)] : List ByteArray) : List ByteArray)).bind fun y369 => ((laws_at.f l1 2 3).bind fun t372 => (if 0 ≤ t372 then (if t372 < (y369.length : Int) then ((impl_Scan.f k3 t327 (rdOf ByteArray.empty y364 t367) (rdOf ByteArray.empty y369 t372)).bind fun bt374 => ((spec_Scan.f k3 t327 (rdOf ByteArray.empty y364 t367) (rdOf ByteArray.empty y369 t372)).bind fun bt378 => (laws_FnMaps.l1 k3 t327 (rdOf ByteArray.empty y364 t367) (rdOf ByteArray.empty y369 t372) bt374.1 bt374.2 bt378.1 0 0))) else (none)) else (none)))) else (none)) else (none)) = some r := H
                       have A75 := Aside0.mk A750
                       clear A750
                       by_cases c76 : 0 ≤ t367
                       · rw [if_pos c76] at H
                         have c76b0 : decide (0 ≤ t367) = true := decide_eq_true c76
                         clear c76
                         by_cases c77 : t367 < (y364.length : Int)
                         · rw [if_pos c77] at H
                           have c77b0 : decide (t367 < (y364.length : Int)) = true := decide_eq_true c77
                           clear c77
                           obtain ⟨y369, hy369⟩ : ∃ y_ : List ByteArray, y_ = (([(⟨#[]⟩ : ByteArray), (⟨#[99]⟩ : ByteArray), (⟨#[107, 50]⟩ : ByteArray)] : List ByteArray)) := ⟨_, rfl⟩
                           replace H : ((laws_at.f l1 2 3).bind fun t372 => (if 0 ≤ t372 then (if t372 < (y369.length : Int) then ((impl_Scan.f k3 t327 (rdOf ByteArray.empty y364 t367) (rdOf ByteArray.empty y369 t372)).bind fun bt374 => ((spec_Scan.f k3 t327 (rdOf ByteArray.empty y364 t367) (rdOf ByteArray.empty y369 t372)).bind fun bt378 => (laws_FnMaps.l1 k3 t327 (rdOf ByteArray.empty y364 t367) (rdOf ByteArray.empty y369 t372) bt374.1 bt374.2 bt378.1 0 0))) else (none)) else (none))) = some r := by first | (rw [hy369]; with_reducible exact H) | (have H2_ := (Option.bind_some _ _).symm.trans H; rw [hy369]; with_reducible exact H2_) | (have H2_ := (Option.bind_some _ _).symm.trans H; with_reducible exact H2_) | with_reducible exact H | (rw [hy369]; exact H) | exact H
                           have Ny369 := Aside0.mk hy369
                           clear hy369
                           replace H := Option.bind_eq_some_iff.mp H
                           obtain ⟨t372, A780, H⟩ := H
                           replace H : (if 0 ≤ t372 then (if t372 < (y369.length : Int) then ((impl_Scan.f k3 t327 (rdOf ByteArray.empty y364 t367) (rdOf ByteArray.empty y369 t372)).bind fun bt374 => ((spec_Scan.f k3 t327 (rdOf ByteArray.empty y364 t367) (rdOf ByteArray.empty y369 t372)).bind fun bt378 => (laws_FnMaps.l1 k3 t327 (rdOf ByteArray.empty y364 t367) (rdOf ByteArray.empty y369 t372) bt374.1 bt374.2 bt378.1 0 0))) else (none)) else (none)) = some r := H
                           have A78 := Aside0.mk A780
                           clear A780
                           by_cases c79 : 0 ≤ t372
                           · rw [if_pos c79] at H
                             have c79b0 : decide (0 ≤ t372) = true := decide_eq_true c79
                             clear c79
                             by_cases c80 : t372 < (y369.length : Int)
                             · rw [if_pos c80] at H
                               have c80b0 : decide (t372 < (y369.length : Int)) = true := decide_eq_true c80
                               clear c80
                               replace H := Option.bind_eq_some_iff.mp H
                               obtain ⟨⟨t374, t375⟩, A810, H⟩ := H
                               replace H : ((spec_Scan.f k3 t327 (rdOf ByteArray.empty y364 t367) (rdOf ByteArray.empty y369 t372)).bind fun bt378 => (laws_FnMaps.l1 k3 t327 (rdOf ByteArray.empty y364 t367) (rdOf ByteArray.empty y369 t372) t374 t375 bt378.1 0 0)) = some r := H
                               have A81 := Aside0.mk A810
                               clear A810
                               replace H := Option.bind_eq_some_iff.mp H
                               obtain ⟨⟨t378, t379⟩, A820, H⟩ := H
                               replace H : (laws_FnMaps.l1 k3 t327 (rdOf ByteArray.empty y364 t367) (rdOf ByteArray.empty y369 t372) t374 t375 t378 0 0) = some r := H
                               have A82 := Aside0.mk A820
                               clear A820
                               have H' := Aside0.mk H
                               clear H
                               go_wp2_with (first | ((with_reducible refine gate_dst (N := 188) rfl ?_); (try (refine gate_guard (by rfl) ?_; dsimp only)); refine Kd.R_lit Kd.string _ 9 ?hg (N := 188) ?hd (xs := ([(⟨#[]⟩ : ByteArray), (⟨#[98]⟩ : ByteArray), (⟨#[107]⟩ : ByteArray)] : List ByteArray)) (inner := [.string (⟨#[]⟩ : ByteArray), .string (⟨#[98]⟩ : ByteArray), .string (⟨#[107]⟩ : ByteArray)]) (ok := fun _ => True) (okp := fun _ => True) ?hr ?hp (fun _ hk => hk) trivial (Below.refl _ _) (Nat.le_refl _) (by simp) ?_; (case hd => rfl); (case hg => rfl); (case hr => first | (go_simp; done) | (go_simp; rfl)); (case hp => exact (Reps.one (show Kd.M Kd.string _ _ _ (⟨#[]⟩ : ByteArray) [.string (⟨#[]⟩ : ByteArray)] from rfl) (Reps.one (show Kd.M Kd.string _ _ _ (⟨#[98]⟩ : ByteArray) [.string (⟨#[98]⟩ : ByteArray)] from rfl) (Reps.one (show Kd.M Kd.string _ _ _ (⟨#[107]⟩ : ByteArray) [.string (⟨#[107]⟩ : ByteArray)] from rfl) (Reps.none _ _))))); intro v365 w83 ho84 hb hg_ hnew_; clear hg_ hnew_; (first | rw [← Ny364.out] at ho84 | (simp only [Int.reduceToNat] at ho84; rw [← Ny364.out] at ho84)); have n0_ := Aside0.mk (Kd.R_below (pR HO_5) hb); have n1_ := Aside0.mk (Kd.R_below (pR HO_8) hb); have n2_ := Aside0.mk (Kd.R_below (pR HO_14) hb); have n3_ := Aside0.mk (Kd.R_lower ho84 (below_size (w := w) bW)); have n4_ := Aside0.mk (below_step (w := w) bW hb); clear HO_5; clear HO_8; clear HO_14; clear HB; have HO_5 := n0_; have HO_8 := n1_; have HO_14 := n2_; have HO366 := n3_; have HB := n4_; clear n0_ n1_ n2_ n3_ n4_; clear hb ho84) | ((with_reducible refine gate_callee (f := 8) rfl ?_); refine goesL_ (some 190) rfl rfl Try.func8 (by kernel_rfl) rfl #[.slice A1 l1.length c1, .int .i64 1, .int .i64 3] rfl gA ?_; (with_reducible refine (laws_at.calls _ _ l1 1 3 t367 _ ?side1 ?side2 A75.out).mono ?_); (case side1 => exact cB HR1); (case side2 => exact HC1.out); rintro e w' ⟨rfl, ⟨nd, rfl⟩⟩; refine ⟨_, rfl, ?_⟩; obtain ⟨Ao85, co85, eo85⟩ := Kd.R_slice HO366.out; subst eo85; have p368 : 0 ≤ (t367 : Int) := odt; have q368 : t367 < (y364.length : Int) := odt; obtain ⟨ad368, e368, hx368_0⟩ := Kd.at_string (Kd.R_reads' HO366.out).2.2 t367 p368 q368; cases e368; replace p368 := eq_true p368; replace q368 := eq_true q368) | ((with_reducible refine gate_dst (N := 193) rfl ?_); (try (refine gate_guard (by rfl) ?_; dsimp only)); refine Kd.R_lit Kd.string _ 9 ?hg (N := 193) ?hd (xs := ([(⟨#[]⟩ : ByteArray), (⟨#[99]⟩ : ByteArray), (⟨#[107, 50]⟩ : ByteArray)] : List ByteArray)) (inner := [.string (⟨#[]⟩ : ByteArray), .string (⟨#[99]⟩ : ByteArray), .string (⟨#[107, 50]⟩ : ByteArray)]) (ok := fun _ => True) (okp := fun _ => True) ?hr ?hp (fun _ hk => hk) trivial (Below.refl _ _) (Nat.le_refl _) (by simp) ?_; (case hd => rfl); (case hg => rfl); (case hr => first | (go_simp; done) | (go_simp; rfl)); (case hp => exact (Reps.one (show Kd.M Kd.string _ _ _ (⟨#[]⟩ : ByteArray) [.string (⟨#[]⟩ : ByteArray)] from rfl) (Reps.one (show Kd.M Kd.string _ _ _ (⟨#[99]⟩ : ByteArray) [.string (⟨#[99]⟩ : ByteArray)] from rfl) (Reps.one (show Kd.M Kd.string _ _ _ (⟨#[107, 50]⟩ : ByteArray) [.string (⟨#[107, 50]⟩ : ByteArray)] from rfl) (Reps.none _ _))))); intro v370 w86 ho87 hb hg_ hnew_; clear hg_ hnew_; (first | rw [← Ny369.out] at ho87 | (simp only [Int.reduceToNat] at ho87; rw [← Ny369.out] at ho87)); have n0_ := Aside0.mk (Kd.R_below (pR HO_5) hb); have n1_ := Aside0.mk (Kd.R_below (pR HO_8) hb); have n2_ := Aside0.mk (Kd.R_below (pR HO_14) hb); have n3_ := Aside0.mk (Kd.R_elder' (pR HO366) (Kd.R_base ho87) hb); have n4_ := Aside0.mk (Kd.R_lower (Kd.R_new' ho87 (Kd.R_lt (pR HO366))) (below_size (w := w) bW)); have n5_ := Aside0.mk (below_step (w := w) bW hb); clear HO_5; clear HO_8; clear HO_14; clear HO366; clear HB; have HO_5 := n0_; have HO_8 := n1_; have HO_14 := n2_; have HO366 := n3_; have HO371 := n4_; have HB := n5_; clear n0_ n1_ n2_ n3_ n4_ n5_; clear hb ho87) | ((with_reducible refine gate_callee (f := 8) rfl ?_); refine goesL_ (some 195) rfl rfl Try.func8 (by kernel_rfl) rfl #[.slice A1 l1.length c1, .int .i64 2, .int .i64 3] rfl gA ?_; (with_reducible refine (laws_at.calls _ _ l1 2 3 t372 _ ?side1 ?side2 A78.out).mono ?_); (case side1 => exact cB HR1); (case side2 => exact HC1.out); rintro e w' ⟨rfl, ⟨nd, rfl⟩⟩; refine ⟨_, rfl, ?_⟩; obtain ⟨Ao88, co88, eo88⟩ := Kd.R_slice HO371.out; subst eo88; have p373 : 0 ≤ (t372 : Int) := odt; have q373 : t372 < (y369.length : Int) := odt; obtain ⟨ad373, e373, hx373_0⟩ := Kd.at_string (Kd.R_reads' HO371.out).2.2 t372 p373 q373; cases e373; replace p373 := eq_true p373; replace q373 := eq_true q373) | ((with_reducible refine gate_callee (f := 16) rfl ?_); refine goesL_ (some 202) rfl rfl Try.func16 (by kernel_rfl) rfl #[.slice Ao18 t327.length co18, .string (rdOf ByteArray.empty y364 t367), .string (rdOf ByteArray.empty y369 t372)] rfl gA ?_; (with_reducible refine (impl_Scan.calls k3 _ _ t327 (rdOf ByteArray.empty y364 t367) (rdOf ByteArray.empty y369 t372) t374 t375 _ ?side1 ?side2 A81.out).mono ?_); (case side1 => repeat (first | exact (Kd.R_reads' HO_5.out).2.2 | (with_reducible refine Kd.C_alloc ?_ _) | (with_reducible refine Kd.C_drewN ?_ _) | (with_reducible refine Kd.C_drew ?_))); (case side2 => exact (Kd.R_reads' HO_5.out).2.1); rintro e w89 ⟨v376, rfl, ho0, hb⟩; refine ⟨_, rfl, ?_⟩; have n0_ := Aside0.mk (Kd.R_elder' (pR HO_5) (Kd.R_base ho0) hb); have n1_ := Aside0.mk (Kd.R_elder' (pR HO_8) (Kd.R_base ho0) hb); have n2_ := Aside0.mk (Kd.R_elder' (pR HO_14) (Kd.R_base ho0) hb); have n3_ := Aside0.mk (Kd.R_below (pR HO366) hb); have n4_ := Aside0.mk (Kd.R_below (pR HO371) hb); have n5_ := Aside0.mk (Kd.R_lower (Kd.R_new' (Kd.R_new' (Kd.R_new' ho0 (Kd.R_lt (pR HO_5))) (Kd.R_lt (pR HO_8))) (Kd.R_lt (pR HO_14))) (below_size (w := w) bW)); have n6_ := Aside0.mk (below_step (w := w) bW hb); clear HO_5; clear HO_8; clear HO_14; clear HO366; clear HO371; clear HB; have HO_5 := n0_; have HO_8 := n1_; have HO_14 := n2_; have HO366 := n3_; have HO371 := n4_; have HO377 := n5_; have HB := n6_; clear n0_ n1_ n2_ n3_ n4_ n5_ n6_; (try clear hb); (try clear hb2); (try clear hk); (try clear hi); (try clear ho0)) | ((with_reducible refine gate_callee (f := 17) rfl ?_); refine goesL_ (some 209) rfl rfl Try.func17 (by kernel_rfl) rfl #[.slice Ao18 t327.length co18, .string (rdOf ByteArray.empty y364 t367), .string (rdOf ByteArray.empty y369 t372)] rfl gA ?_; (with_reducible refine (spec_Scan.calls k3 _ _ t327 (rdOf ByteArray.empty y364 t367) (rdOf ByteArray.empty y369 t372) t378 t379 _ ?side1 ?side2 A82.out).mono ?_); (case side1 => repeat (first | exact (Kd.R_reads' HO_5.out).2.2 | (with_reducible refine Kd.C_alloc ?_ _) | (with_reducible refine Kd.C_drewN ?_ _) | (with_reducible refine Kd.C_drew ?_))); (case side2 => exact (Kd.R_reads' HO_5.out).2.1); rintro e w90 ⟨v380, rfl, ho0, hb⟩; refine ⟨_, rfl, ?_⟩; have n0_ := Aside0.mk (Kd.R_elder' (pR HO_5) (Kd.R_base ho0) hb); have n1_ := Aside0.mk (Kd.R_elder' (pR HO_8) (Kd.R_base ho0) hb); have n2_ := Aside0.mk (Kd.R_elder' (pR HO_14) (Kd.R_base ho0) hb); have n3_ := Aside0.mk (Kd.R_below (pR HO366) hb); have n4_ := Aside0.mk (Kd.R_below (pR HO371) hb); have n5_ := Aside0.mk (Kd.R_elder' (pR HO377) (Kd.R_base ho0) hb); have n6_ := Aside0.mk (Kd.R_lower (Kd.R_new' (Kd.R_new' (Kd.R_new' (Kd.R_new' ho0 (Kd.R_lt (pR HO_5))) (Kd.R_lt (pR HO_8))) (Kd.R_lt (pR HO_14))) (Kd.R_lt (pR HO377))) (below_size (w := w) bW)); have n7_ := Aside0.mk (below_step (w := w) bW hb); clear HO_5; clear HO_8; clear HO_14; clear HO366; clear HO371; clear HO377; clear HB; have HO_5 := n0_; have HO_8 := n1_; have HO_14 := n2_; have HO366 := n3_; have HO371 := n4_; have HO377 := n5_; have HO381 := n6_; have HB := n7_; clear n0_ n1_ n2_ n3_ n4_ n5_ n6_ n7_; (try clear hb); (try clear hb2); (try clear hk); (try clear hi); (try clear ho0)))
                               go_loopg [31, 32] k3 (fun kq v31 v32 w' => ∃ (x31_4 : Int) (x32_4 : Int), v31 = .int .i64 x31_4 ∧ v32 = .int .i64 x32_4 ∧ Aside0 (laws_FnMaps.l1 kq t327 (rdOf ByteArray.empty y364 t367) (rdOf ByteArray.empty y369 t372) t374 t375 t378 x31_4 x32_4 = some r) ∧ Aside0 (kq ≤ k3) ∧ Aside0 (Kd.R k35 35 w' w.heap.size (fun k_ => some k_ ≠ (v376 : Value).ownBlock ∧ some k_ ≠ (v380 : Value).ownBlock) (.slice Ao18 t327.length co18) t327) ∧ Aside0 (Kd.R k35 35 w' w.heap.size (fun k_ => some k_ ≠ ((.slice Ao18 t327.length co18) : Value).ownBlock ∧ some k_ ≠ (v380 : Value).ownBlock) v376 t374) ∧ Aside0 (Kd.R k35 35 w' w.heap.size (fun k_ => some k_ ≠ ((.slice Ao18 t327.length co18) : Value).ownBlock ∧ some k_ ≠ (v376 : Value).ownBlock) v380 t378) ∧ Aside0 (Below w.heap.size w w'))
                               case atStart => exact ⟨(0), (0), vE, vE, H', ⟨Nat.le_refl _⟩, ⟨by (with_reducible repeat (first | apply Kd.R_alloc | apply Kd.R_drewN | apply Kd.R_drew)); exact Kd.R_mono HO_5.out (fun _ hk => ⟨hk.1.2, hk.2⟩)⟩, ⟨by (with_reducible repeat (first | apply Kd.R_alloc | apply Kd.R_drewN | apply Kd.R_drew)); exact Kd.R_mono HO377.out (fun _ hk => ⟨hk.1.1.1.2, hk.2⟩)⟩, ⟨by (with_reducible repeat (first | apply Kd.R_alloc | apply Kd.R_drewN | apply Kd.R_drew)); exact Kd.R_mono HO381.out (fun _ hk => ⟨hk.1.1.1.2, hk.2⟩)⟩, ⟨bW⟩⟩
                               case round =>
                                as_aux_lemma =>
                                  clear H'
                                  try clear c1
                                  try clear c2
                                  try clear p2
                                  try clear c3
                                  try clear p3
                                  try clear q3
                                  try clear hx3
                                  try clear c4
                                  try clear c4b0
                                  try clear c4b1
                                  try clear c5
                                  try clear c6
                                  try clear p6
                                  try clear c7
                                  try clear c8
                                  try clear c9
                                  try clear c10
                                  try clear c11
                                  try clear c12
                                  try clear c13
                                  try clear c16
                                  try clear c17
                                  try clear c28
                                  try clear c28b0
                                  try clear c28b1
                                  try clear c29
                                  try clear c29b0
                                  try clear c29b1
                                  try clear c31
                                  try clear c32
                                  try clear c32b0
                                  try clear c32b1
                                  try clear c33
                                  try clear c33b0
                                  try clear c33b1
                                  try clear c34
                                  try clear c34b0
                                  try clear c34b1
                                  try clear c35
                                  try clear c35b0
                                  try clear c35b1
                                  try clear p35
                                  try clear q35
                                  try clear hx35
                                  try clear p36
                                  try clear q36
                                  try clear hx36
                                  try clear c37
                                  try clear p37
                                  try clear q37
                                  try clear hx37
                                  try clear c38
                                  try clear c38b0
                                  try clear c38b1
                                  try clear c55
                                  try clear c56
                                  try clear c56b0
                                  try clear c57
                                  try clear c57b0
                                  try clear c58
                                  try clear c58b0
                                  try clear c58b1
                                  try clear c61
                                  try clear c61b0
                                  try clear c61b1
                                  try clear c62
                                  try clear c62b0
                                  try clear c62b1
                                  try clear c63
                                  try clear c63b0
                                  try clear c63b1
                                  try clear c64
                                  try clear c64b0
                                  try clear c64b1
                                  try clear p64
                                  try clear c76
                                  try clear c76b0
                                  try clear c77
                                  try clear c77b0
                                  try clear c79
                                  try clear c79b0
                                  try clear c80
                                  try clear c80b0
                                  try clear hx355_0
                                  try clear hx355_1
                                  try clear hx356_0
                                  try clear hx356_1
                                  try clear hx359_0
                                  try clear hx359_1
                                  try clear hx362_0
                                  try clear hx362_1
                                  try clear hx363_0
                                  try clear hx363_1
                                  try clear hx368_0
                                  try clear hx373_0
                                  try clear p2
                                  try clear p355
                                  try clear p356
                                  try clear p359
                                  try clear p362
                                  try clear p363
                                  try clear p368
                                  try clear p373
                                  try clear q355
                                  try clear q356
                                  try clear q359
                                  try clear q362
                                  try clear q363
                                  try clear q368
                                  try clear q373
                                  obtain ⟨x31_4, x32_4, rfl, rfl, HA, HK4, HO_5, HO_27, HO_29, HB⟩ := hrel
                                  cases gk with
                                  | zero => exact absurd HA.out (by simp [laws_FnMaps.l1])
                                  | succ k4 =>
                                    have H := HA.out
                                    clear HA
                                    simp only [laws_FnMaps.l1] at H
                                    by_cases c91 : x32_4 < (t327.length : Int)
                                    · rw [if_pos c91] at H
                                      have c91b0 : decide (x32_4 < (t327.length : Int)) = true := decide_eq_true c91
                                      clear c91
                                      by_cases c92 : 0 ≤ x32_4
                                      · rw [if_pos c92] at H
                                        have c92b0 : decide (0 ≤ x32_4) = true := decide_eq_true c92
                                        clear c92
                                        by_cases c93 : ((Op.bytesLess (((rd_T35 t327 x32_4).f0).toList) (rdOf ByteArray.empty y364 t367).toList) = true)
                                        · rw [if_pos c93] at H
                                          have c93b0 : (Op.bytesLess (((rd_T35 t327 x32_4).f0).toList) (rdOf ByteArray.empty y364 t367).toList) = true := c93
                                          clear c93
                                          have H' := Aside0.mk H
                                          clear H
                                          have p382 : 0 ≤ (x32_4 : Int) := odt
                                          have q382 : x32_4 < (t327.length : Int) := odt
                                          obtain ⟨ad382, e382, hx382_0, hx382_1⟩ := at_T35 (Kd.R_reads' HO_5.out).2.2 x32_4 p382 q382
                                          cases e382
                                          replace p382 := eq_true p382
                                          replace q382 := eq_true q382
                                          go_wp2
                                          go_roundg k4
                                          case measure => have := HJ2.out; have := HJ14.out; have := HK3.out; have := HK4.out; omega
                                          case rel => exact ⟨(x31_4), (wrap64 (x32_4 + 1)), vE, vE, H', ⟨by have := HJ2.out; have := HJ14.out; have := HK3.out; have := HK4.out; omega⟩, ⟨by (with_reducible repeat (first | apply Kd.R_alloc | apply Kd.R_drewN | apply Kd.R_drew)); exact HO_5.out⟩, ⟨by (with_reducible repeat (first | apply Kd.R_alloc | apply Kd.R_drewN | apply Kd.R_drew)); exact HO_27.out⟩, ⟨by (with_reducible repeat (first | apply Kd.R_alloc | apply Kd.R_drewN | apply Kd.R_drew)); exact HO_29.out⟩, ⟨bW⟩⟩
                                        · rw [if_neg c93] at H
                                          have c93b0 : (Op.bytesLess (((rd_T35 t327 x32_4).f0).toList) (rdOf ByteArray.empty y364 t367).toList) = false := by simpa using c93
                                          clear c93
                                          by_cases c94 : (rdOf ByteArray.empty y369 t372).toList = ([] : List UInt8)
                                          · rw [if_pos c94] at H
                                            have c94b0 : ((rdOf ByteArray.empty y369 t372).toList == ([] : List UInt8)) = true := beq_iff_eq.mpr c94
                                            have c94b1 : ((rdOf ByteArray.empty y369 t372).toList != ([] : List UInt8)) = false := bne_eq_false_iff_eq.mpr c94
                                            clear c94
                                            have H' := Aside0.mk H
                                            clear H
                                            have p382 : 0 ≤ (x32_4 : Int) := odt
                                            have q382 : x32_4 < (t327.length : Int) := odt
                                            obtain ⟨ad382, e382, hx382_0, hx382_1⟩ := at_T35 (Kd.R_reads' HO_5.out).2.2 x32_4 p382 q382
                                            cases e382
                                            replace p382 := eq_true p382
                                            replace q382 := eq_true q382
                                            go_wp2
                                            go_roundg k4
                                            case measure => have := HJ2.out; have := HJ14.out; have := HK3.out; have := HK4.out; omega
                                            case rel => exact ⟨(wrap64 (x31_4 + 1)), (wrap64 (x32_4 + 1)), vE, vE, H', ⟨by have := HJ2.out; have := HJ14.out; have := HK3.out; have := HK4.out; omega⟩, ⟨by (with_reducible repeat (first | apply Kd.R_alloc | apply Kd.R_drewN | apply Kd.R_drew)); exact HO_5.out⟩, ⟨by (with_reducible repeat (first | apply Kd.R_alloc | apply Kd.R_drewN | apply Kd.R_drew)); exact HO_27.out⟩, ⟨by (with_reducible repeat (first | apply Kd.R_alloc | apply Kd.R_drewN | apply Kd.R_drew)); exact HO_29.out⟩, ⟨bW⟩⟩
                                          · rw [if_neg c94] at H
                                            have c94b0 : ((rdOf ByteArray.empty y369 t372).toList == ([] : List UInt8)) = false := beq_eq_false_iff_ne.mpr c94
                                            have c94b1 : ((rdOf ByteArray.empty y369 t372).toList != ([] : List UInt8)) = true := bne_iff_ne.mpr c94
                                            by_cases c95 : (Op.bytesLess (((rd_T35 t327 x32_4).f0).toList) (rdOf ByteArray.empty y369 t372).toList) = true
                                            · rw [if_pos c95] at H
                                              have c95b0 : (Op.bytesLess (((rd_T35 t327 x32_4).f0).toList) (rdOf ByteArray.empty y369 t372).toList) = true := c95
                                              clear c95
                                              have H' := Aside0.mk H
                                              clear H
                                              have p382 : 0 ≤ (x32_4 : Int) := odt
                                              have q382 : x32_4 < (t327.length : Int) := odt
                                              obtain ⟨ad382, e382, hx382_0, hx382_1⟩ := at_T35 (Kd.R_reads' HO_5.out).2.2 x32_4 p382 q382
                                              cases e382
                                              replace p382 := eq_true p382
                                              replace q382 := eq_true q382
                                              have p383 : 0 ≤ (x32_4 : Int) := odt
                                              have q383 : x32_4 < (t327.length : Int) := odt
                                              obtain ⟨ad383, e383, hx383_0, hx383_1⟩ := at_T35 (Kd.R_reads' HO_5.out).2.2 x32_4 p383 q383
                                              obtain rfl : ad382 = ad383 := (by injection e383)
                                              replace p383 := eq_true p383
                                              replace q383 := eq_true q383
                                              go_wp2
                                              go_roundg k4
                                              case measure => have := HJ2.out; have := HJ14.out; have := HK3.out; have := HK4.out; omega
                                              case rel => exact ⟨(wrap64 (x31_4 + 1)), (wrap64 (x32_4 + 1)), vE, vE, H', ⟨by have := HJ2.out; have := HJ14.out; have := HK3.out; have := HK4.out; omega⟩, ⟨by (with_reducible repeat (first | apply Kd.R_alloc | apply Kd.R_drewN | apply Kd.R_drew)); exact HO_5.out⟩, ⟨by (with_reducible repeat (first | apply Kd.R_alloc | apply Kd.R_drewN | apply Kd.R_drew)); exact HO_27.out⟩, ⟨by (with_reducible repeat (first | apply Kd.R_alloc | apply Kd.R_drewN | apply Kd.R_drew)); exact HO_29.out⟩, ⟨bW⟩⟩
                                            · rw [if_neg c95] at H
                                              have c95b0 : (Op.bytesLess (((rd_T35 t327 x32_4).f0).toList) (rdOf ByteArray.empty y369 t372).toList) = false := by simpa using c95
                                              clear c95
                                              have H' := Aside0.mk H
                                              clear H
                                              have p382 : 0 ≤ (x32_4 : Int) := odt
                                              have q382 : x32_4 < (t327.length : Int) := odt
                                              obtain ⟨ad382, e382, hx382_0, hx382_1⟩ := at_T35 (Kd.R_reads' HO_5.out).2.2 x32_4 p382 q382
                                              cases e382
                                              replace p382 := eq_true p382
                                              replace q382 := eq_true q382
                                              have p383 : 0 ≤ (x32_4 : Int) := odt
                                              have q383 : x32_4 < (t327.length : Int) := odt
                                              obtain ⟨ad383, e383, hx383_0, hx383_1⟩ := at_T35 (Kd.R_reads' HO_5.out).2.2 x32_4 p383 q383
                                              obtain rfl : ad382 = ad383 := (by injection e383)
                                              replace p383 := eq_true p383
                                              replace q383 := eq_true q383
                                              go_wp2
                                              go_roundg k4
                                              case measure => have := HJ2.out; have := HJ14.out; have := HK3.out; have := HK4.out; omega
                                              case rel => exact ⟨(x31_4), (wrap64 (x32_4 + 1)), vE, vE, H', ⟨by have := HJ2.out; have := HJ14.out; have := HK3.out; have := HK4.out; omega⟩, ⟨by (with_reducible repeat (first | apply Kd.R_alloc | apply Kd.R_drewN | apply Kd.R_drew)); exact HO_5.out⟩, ⟨by (with_reducible repeat (first | apply Kd.R_alloc | apply Kd.R_drewN | apply Kd.R_drew)); exact HO_27.out⟩, ⟨by (with_reducible repeat (first | apply Kd.R_alloc | apply Kd.R_drewN | apply Kd.R_drew)); exact HO_29.out⟩, ⟨bW⟩⟩
                                      · rw [if_neg c92] at H
                                        exact absurd H (by simp)
                                    · rw [if_neg c91] at H
                                      have c91b0 : decide (x32_4 < (t327.length : Int)) = false := decide_eq_false c91
                                      clear c91
                                      by_cases c96 : t375 = 0
                                      · rw [if_pos c96] at H
                                        have c96b0 : (t375 == 0) = true := beq_iff_eq.mpr c96
                                        have c96b1 : (t375 != 0) = false := bne_eq_false_iff_eq.mpr c96
                                        clear c96
                                        replace H := Option.bind_eq_some_iff.mp H
                                        obtain ⟨t384, A970, H⟩ := H
                                        replace H : (if t384 = true then (some ((t374.length : Int) == x31_4)) else (some false)) = some r := H
                                        have A97 := Aside0.mk A970
                                        clear A970
                                        by_cases c98 : t384 = true
                                        · subst c98
                                          have H1 : (some ((t374.length : Int) == x31_4)) = some r := by rw [if_pos rfl] at H; exact H
                                          clear H
                                          have H := H1
                                          clear H1
                                          obtain rfl := Option.some.inj H
                                          obtain ⟨Ao99, co99, eo99⟩ := Kd.R_slice HO_27.out
                                          subst eo99
                                          obtain ⟨Ao100, co100, eo100⟩ := Kd.R_slice HO_29.out
                                          subst eo100
                                          go_wp2_with (first | (go_at_call 14; (with_reducible refine (impl_SameMap.calls k4 _ _ t374 _ _ t378 true _ ?side1 ?side2 ?side3 ?side4 A97.out).mono ?_); (case side1 => repeat (first | exact (Kd.R_reads' HO_27.out).2.2 | (with_reducible refine Kd.C_alloc ?_ _) | (with_reducible refine Kd.C_drewN ?_ _) | (with_reducible refine Kd.C_drew ?_))); (case side2 => exact (Kd.R_reads' HO_27.out).2.1); (case side3 => repeat (first | exact (Kd.R_reads' HO_29.out).2.2 | (with_reducible refine Kd.C_alloc ?_ _) | (with_reducible refine Kd.C_drewN ?_ _) | (with_reducible refine Kd.C_drew ?_))); (case side4 => exact (Kd.R_reads' HO_29.out).2.1); rintro e w101 ⟨rfl, hb⟩; have n0_ := Aside0.mk (Kd.R_below (pR HO_5) hb); have n1_ := Aside0.mk (Kd.R_below (pR HO_27) hb); have n2_ := Aside0.mk (Kd.R_below (pR HO_29) hb); have n3_ := Aside0.mk (below_step (w := w) bW hb); clear HO_5; clear HO_27; clear HO_29; clear HB; have HO_5 := n0_; have HO_27 := n1_; have HO_29 := n2_; have HB := n3_; clear n0_ n1_ n2_ n3_; (try clear hb); (try clear hb2); (try clear hk); (try clear hi)))
                                          go_ret
                                          exact ⟨rE, bW⟩
                                        · replace c98 := Bool.eq_false_iff.mpr c98
                                          subst c98
                                          have H1 : (some false) = some r := by rw [if_neg (show ¬ (false = true) by decide)] at H; exact H
                                          clear H
                                          have H := H1
                                          clear H1
                                          obtain rfl := Option.some.inj H
                                          obtain ⟨Ao102, co102, eo102⟩ := Kd.R_slice HO_27.out
                                          subst eo102
                                          obtain ⟨Ao103, co103, eo103⟩ := Kd.R_slice HO_29.out
                                          subst eo103
                                          go_wp2_with (first | (go_at_call 14; (with_reducible refine (impl_SameMap.calls k4 _ _ t374 _ _ t378 false _ ?side1 ?side2 ?side3 ?side4 A97.out).mono ?_); (case side1 => repeat (first | exact (Kd.R_reads' HO_27.out).2.2 | (with_reducible refine Kd.C_alloc ?_ _) | (with_reducible refine Kd.C_drewN ?_ _) | (with_reducible refine Kd.C_drew ?_))); (case side2 => exact (Kd.R_reads' HO_27.out).2.1); (case side3 => repeat (first | exact (Kd.R_reads' HO_29.out).2.2 | (with_reducible refine Kd.C_alloc ?_ _) | (with_reducible refine Kd.C_drewN ?_ _) | (with_reducible refine Kd.C_drew ?_))); (case side4 => exact (Kd.R_reads' HO_29.out).2.1); rintro e w104 ⟨rfl, hb⟩; have n0_ := Aside0.mk (Kd.R_below (pR HO_5) hb); have n1_ := Aside0.mk (Kd.R_below (pR HO_27) hb); have n2_ := Aside0.mk (Kd.R_below (pR HO_29) hb); have n3_ := Aside0.mk (below_step (w := w) bW hb); clear HO_5; clear HO_27; clear HO_29; clear HB; have HO_5 := n0_; have HO_27 := n1_; have HO_29 := n2_; have HB := n3_; clear n0_ n1_ n2_ n3_; (try clear hb); (try clear hb2); (try clear hk); (try clear hi)))
                                          go_ret
                                          exact ⟨rE, bW⟩
                                      · rw [if_neg c96] at H
                                        have c96b0 : (t375 == 0) = false := beq_eq_false_iff_ne.mpr c96
                                        have c96b1 : (t375 != 0) = true := bne_iff_ne.mpr c96
                                        obtain rfl := Option.some.inj H
                                        go_wp2
                                        go_ret
                                        exact ⟨rE, bW⟩
                             · rw [if_neg c80] at H
                               exact absurd H (by simp)
                           · rw [if_neg c79] at H
                             exact absurd H (by simp)
                         · rw [if_neg c77] at H
                           exact absurd H (by simp)
                       · rw [if_neg c76] at H
                         exact absurd H (by simp)
def laws_FnMaps.Pure : Prop := ∀ (l0 : List Int) (l1 : List Int), l0.length ≤ maxLen → l0.length * 1 ≤ 140737488351232 → (∀ x ∈ l0, (Lit.int .u8 x).wf = true) → l1.length ≤ maxLen → l1.length * 1 ≤ 140737488351232 → (∀ x ∈ l1, (Lit.int .u8 x).wf = true) → ∃ k, laws_FnMaps.f k l0 l1 = some true
theorem laws_FnMaps.walk (P : laws_FnMaps.Pure) (a0 : Option Addr) (len0 cap0 : Nat) (z0 : List Int) (a1 : Option Addr) (len1 cap1 : Nat) (z1 : List Int) (w : World) (w0 : (a0 = none ∧ len0 = 0 ∧ cap0 = 0 ∧ z0 = []) ∨ ∃ x, a0 = some x ∧ len0 ≤ cap0 ∧ cap0 ≤ maxLen ∧ z0.length = cap0 ∧ (∀ i, i < z0.length → w.cell? (x.add i) = some (.int .u8 (z0.getD i 0))) ∧ ∀ n ∈ z0, (Lit.int .u8 n).wf = true) (y0 : len0 * 1 ≤ 140737488351232) (w1 : (a1 = none ∧ len1 = 0 ∧ cap1 = 0 ∧ z1 = []) ∨ ∃ x, a1 = some x ∧ len1 ≤ cap1 ∧ cap1 ≤ maxLen ∧ z1.length = cap1 ∧ (∀ i, i < z1.length → w.cell? (x.add i) = some (.int .u8 (z1.getD i 0))) ∧ ∀ n ∈ z1, (Lit.int .u8 n).wf = true) (y1 : len1 * 1 ≤ 140737488351232) :
    Calls Try.prog 3 #[.slice a0 len0 cap0, .slice a1 len1 cap1] w fun e w' => e = .returned (.bool true) ∧ Below w.heap.size w w' := by
  obtain ⟨l0, rfl, hr0, hm0, hw0, hc0⟩ := ReadsInt.ofRowC w0
  obtain ⟨l1, rfl, hr1, hm1, hw1, hc1⟩ := ReadsInt.ofRowC w1
  obtain ⟨k, h⟩ := P l0 l1 hm0 y0 hw0 hm1 y1 hw1
  refine (laws_FnMaps.calls k _ _ l0 _ _ l1 true w (Kd.C_of_reads (d := (0 : Int)) (h1 := fun _ => rfl) hr0) hc0 (Kd.C_of_reads (d := (0 : Int)) (h1 := fun _ => rfl) hr1) hc1 h).mono ?_
  rintro e w' ⟨rfl, hd⟩
  exact ⟨rfl, hd⟩
end Go.Proofs.Ytkmjmgkpcomldaa.Q
end

section
namespace Go.Proofs.Ytkmjmgkpcomldaa.Q
open Go.RowKit Go.Proofs.YtkmjmgkpcomldaaW.PrintWords Go.Proofs.YtkmjmgkpcomldaaW.PrintLast
set_option linter.unusedVariables false
set_option linter.unusedSimpArgs false
theorem rdEntry {l : List S35} {i : Nat} (h : i < l.length) : rd_T35 l (i : Int) = l[i] := by
  simp [rd_T35, List.getD_eq_getElem?_getD, List.getElem?_eq_getElem h]
end Go.Proofs.Ytkmjmgkpcomldaa.Q
end

section
namespace Go.Proofs.Ytkmjmgkpcomldaa.Q
open Go.RowKit Go.Proofs.YtkmjmgkpcomldaaW.PrintWords Go.Proofs.YtkmjmgkpcomldaaW.PrintLast
set_option linter.unusedVariables false
theorem Ev.at_ {α : Type} {g : Nat → Option α} {r : α} {c : Nat} (e : ∀ k, g (k + c) = some r) : Ev g r := by
  refine ⟨c, fun n hn => ?_⟩
  obtain ⟨m, rfl⟩ : ∃ m, n = m + c := ⟨n - c, by omega⟩
  exact e m
theorem Ev.succ {α : Type} {g : Nat → Option α} {r : α} (h : Ev (fun k => g (k + 1)) r) : Ev g r := Ev.step (fun _ => rfl) h
theorem ev_idx_loop {α : Type} {L : Nat → Int → Option Int} {l : List α} {q : α → Bool}
    (step : ∀ (i : Nat) (hi : i < l.length), q l[i] = false → ∀ k, L (k + 1) (i : Int) = L k ((i + 1 : Nat) : Int))
    (stop : ∀ (i : Nat) (hi : i < l.length), q l[i] = true → ∀ k, L (k + 1) (i : Int) = some (i : Int))
    (done : ∀ k, L (k + 1) (l.length : Int) = some (-1)) : Ev (fun k => L k 0) (idxI q l) := by
  have key : ∀ d (i : Nat), i + d = l.length → (∀ j (hj : j < l.length), j < i → q l[j] = false) → Ev (fun k => L k (i : Int)) (idxI q l) := by
    intro d
    induction d with
    | zero =>
      intro i hi hp
      obtain rfl : i = l.length := by omega
      rw [idxI_none (fun j hj => hp j hj hj)]
      exact Ev.at_ (c := 1) done
    | succ d ih =>
      intro i hi hp
      cases h : q (l[i]'(by omega)) with
      | false =>
        refine Ev.step (step i (by omega) h) (ih (i + 1) (by omega) (fun j hj h2 => ?_))
        rcases Nat.lt_or_eq_of_le (Nat.le_of_lt_succ h2) with h1 | h1
        · exact hp j hj h1
        · subst h1; exact h
      | true =>
        rw [idxI_some (by omega) (fun j hj => hp j (by omega) hj) h]
        exact Ev.at_ (c := 1) (stop i (by omega) h)
  exact key l.length 0 (by omega) (fun j _ hj => absurd hj (Nat.not_lt_zero _))
theorem ev_same_loop {α : Type} {L : Nat → Int → Option Bool} {xs ys : List α} (hl : xs.length = ys.length)
    (step : ∀ (i : Nat) (h1 : i < xs.length) (h2 : i < ys.length), xs[i] = ys[i] → ∀ k, L (k + 1) (i : Int) = L k ((i + 1 : Nat) : Int))
    (stop : ∀ (i : Nat) (h1 : i < xs.length) (h2 : i < ys.length), xs[i] ≠ ys[i] → ∀ k, L (k + 1) (i : Int) = some false)
    (done : ∀ k, L (k + 1) (xs.length : Int) = some true) : ∃ b, Ev (fun k => L k 0) b ∧ (b = true ↔ xs = ys) := by
  have key : ∀ d (i : Nat), i + d = xs.length → xs.take i = ys.take i → ∃ b, Ev (fun k => L k (i : Int)) b ∧ (b = true ↔ xs = ys) := by
    intro d
    induction d with
    | zero =>
      intro i hi hp
      obtain rfl : i = xs.length := by omega
      refine ⟨true, Ev.at_ (c := 1) done, fun _ => ?_, fun _ => rfl⟩
      rw [List.take_length, hl, List.take_length] at hp
      exact hp
    | succ d ih =>
      intro i hi hp
      have h1 : i < xs.length := by omega
      have h2 : i < ys.length := by omega
      rcases Classical.em (xs[i] = ys[i]) with h | h
      · obtain ⟨b, hb, hb2⟩ := ih (i + 1) (by omega) (by rw [List.take_succ_eq_append_getElem h1, List.take_succ_eq_append_getElem h2, hp, h])
        exact ⟨b, Ev.step (step i h1 h2 h) hb, hb2⟩
      · refine ⟨false, Ev.at_ (c := 1) (stop i h1 h2 h), by simp, fun e => absurd (by subst e; rfl) h⟩
  exact key xs.length 0 (by omega) (by simp)
theorem wrap_i {i : Nat} (h : i < 4611686018427387904) : wrap64 ((i : Int) + 1) = ((i + 1 : Nat) : Int) := by unfold wrap64; omega
end Go.Proofs.Ytkmjmgkpcomldaa.Q
end

section
namespace Go.Proofs.Ytkmjmgkpcomldaa.Q
open Go.RowKit Go.Proofs.YtkmjmgkpcomldaaW.PrintWords Go.Proofs.YtkmjmgkpcomldaaW.PrintLast
set_option linter.unusedVariables false
set_option linter.unusedSimpArgs false
theorem mapB_len {l : List S35} (h : mapB l = true) : l.length ≤ 12 := by
  unfold mapB at h
  simp only [Bool.and_eq_true, decide_eq_true_eq] at h
  exact h.1
theorem mapB_rise {l : List S35} (h : mapB l = true) : RiseP l := by
  unfold mapB at h
  simp only [Bool.and_eq_true, allR_iff] at h
  have adj : ∀ j (hj : j + 1 < l.length), sblt l[j].f0 l[j + 1].f0 = true := by
    intro j hj
    have h2 := h.2 (j + 1) hj
    unfold entAt at h2
    have e : (((j + 1 : Nat) : Int) - 1) = (j : Int) := by omega
    rw [e, rdEntry (i := j) (by omega), rdEntry hj] at h2
    have z : (j + 1 == 0) = false := rfl
    simp only [z, Bool.false_or, Bool.and_eq_true] at h2
    exact h2.2
  unfold RiseP
  rw [List.pairwise_iff_getElem]
  intro i j hi hj hij
  obtain ⟨d, rfl⟩ : ∃ d, j = i + 1 + d := ⟨j - (i + 1), by omega⟩
  induction d with
  | zero => exact adj i hj
  | succ d ih => exact sblt_trans (ih (by omega) (by omega)) (adj (i + 1 + d) hj)
theorem cmpK_self {k : ByteArray} {x : S35} : cmpK k x = 0 ↔ x.f0 = k := by
  unfold cmpK cmpB
  rw [cmp_eq]
  constructor
  · intro h
    apply toList_inj
    rw [ByteArray.toList_eq, ByteArray.toList_eq, h]
  · intro h; rw [h]
theorem find_some {l : List S35} {k : ByteArray} {i : Nat} (h : RiseP l) (hi : i < l.length) (hk : l[i].f0 = k) : cntN (cmpK k) l = i ∧ fndB (cmpK k) l = true := by
  have hp := List.pairwise_iff_getElem.mp h
  have hc : cntN (cmpK k) l = i := by
    refine cntN_is l i (by omega) (fun t ht h2 => ?_) (fun t ht h2 => ?_)
    · rw [cmpK_lt, ← hk]
      exact hp t i ht hi h2
    · have h3 : ¬ cmpK k l[t] < 0 := by
        rw [cmpK_lt, ← hk]
        rcases Nat.lt_or_eq_of_le h2 with h4 | h4
        · rw [sblt_asymm (hp i t hi ht h4)]
          simp
        · subst h4
          rw [sblt_irrefl]
          simp
      omega
  refine ⟨hc, ?_⟩
  unfold fndB
  rw [hc, List.getElem?_eq_getElem hi]
  simp only [beq_iff_eq]
  exact cmpK_self.mpr hk
theorem find_none {l : List S35} {k : ByteArray} (hn : ∀ i (hi : i < l.length), l[i].f0 ≠ k) : fndB (cmpK k) l = false := by
  unfold fndB
  cases hx : l[cntN (cmpK k) l]? with
  | none => rfl
  | some x =>
    obtain ⟨hi, rfl⟩ := List.getElem?_eq_some_iff.mp hx
    simp only [beq_eq_false_iff_ne, ne_eq]
    rw [cmpK_self]
    exact hn _ hi
theorem find_f {l : List S35} {k : ByteArray} (h : RiseP l) (hl : l.length ≤ 1048576) : impl_find.f l k = some (((cntN (cmpK k) l : Nat) : Int), fndB (cmpK k) l) := by
  unfold impl_find.f bs_find.f
  rw [if_pos h, if_pos (by omega)]
  rfl
end Go.Proofs.Ytkmjmgkpcomldaa.Q
end

section
namespace Go.Proofs.Ytkmjmgkpcomldaa.Q
open Go.RowKit Go.Proofs.YtkmjmgkpcomldaaW.PrintWords Go.Proofs.YtkmjmgkpcomldaaW.PrintLast
set_option linter.unusedVariables false
set_option linter.unusedSimpArgs false
theorem cntN_le (c : S35 → Int) (l : List S35) : cntN c l ≤ l.length := List.countP_le_length
theorem cnt_at {l : List S35} (h : RiseP l) (k : ByteArray) : ∀ t (ht : t < l.length), (t < cntN (cmpK k) l ↔ sblt l[t].f0 k = true) := by
  have hp := List.pairwise_iff_getElem.mp h
  -- the first place that is not less
  have key : ∀ d i, i + d = l.length → (∀ t (ht : t < l.length), t < i → sblt l[t].f0 k = true) → ∃ c, c ≤ l.length ∧ (∀ t (ht : t < l.length), t < c → sblt l[t].f0 k = true) ∧ (∀ t (ht : t < l.length), c ≤ t → sblt l[t].f0 k = false) := by
    intro d
    induction d with
    | zero => intro i hi hlo; exact ⟨i, by omega, hlo, fun t ht h2 => by omega⟩
    | succ d ih =>
      intro i hi hlo
      have hl : i < l.length := by omega
      cases hb : sblt l[i].f0 k with
      | true =>
        refine ih (i + 1) (by omega) (fun t ht h2 => ?_)
        rcases Nat.lt_or_eq_of_le (Nat.le_of_lt_succ h2) with h3 | h3
        · exact hlo t ht h3
        · subst h3; exact hb
      | false =>
        refine ⟨i, by omega, hlo, fun t ht h2 => ?_⟩
        rcases Nat.lt_or_eq_of_le h2 with h3 | h3
        · cases hb2 : sblt l[t].f0 k with
          | false => rfl
          | true =>
            have := sblt_trans (hp i t hl ht h3) hb2
            rw [hb] at this
            cases this
        · subst h3; exact hb
  obtain ⟨c, hc, h1, h2⟩ := key l.length 0 (by omega) (fun t ht h2 => absurd h2 (Nat.not_lt_zero _))
  have e : cntN (cmpK k) l = c := by
    refine cntN_is l c hc (fun t ht h3 => (cmpK_lt _ _).mpr (h1 t ht h3)) (fun t ht h3 => ?_)
    have h4 : ¬ cmpK k l[t] < 0 := by
      rw [cmpK_lt, h2 t ht h3]
      simp
    omega
  intro t ht
  rw [e]
  constructor
  · exact h1 t ht
  · intro h3
    rcases Nat.lt_or_ge t c with h4 | h4
    · exact h4
    · rw [h2 t ht h4] at h3
      cases h3
theorem fnd_at {l : List S35} (h : RiseP l) (k : ByteArray) : fndB (cmpK k) l = true ↔ ∃ hc : cntN (cmpK k) l < l.length, (l[cntN (cmpK k) l]'hc).f0 = k := by
  unfold fndB
  constructor
  · intro h1
    cases hx : l[cntN (cmpK k) l]? with
    | none => rw [hx] at h1; cases h1
    | some x =>
      rw [hx] at h1
      obtain ⟨hi, rfl⟩ := List.getElem?_eq_some_iff.mp hx
      exact ⟨hi, cmpK_self.mp (by simpa using h1)⟩
  · rintro ⟨hc, e⟩
    rw [List.getElem?_eq_getElem hc]
    simp only [beq_iff_eq]
    exact cmpK_self.mpr e
def behK (k : ByteArray) (l : List S35) : Nat := cntN (cmpK k) l + if fndB (cmpK k) l = true then 1 else 0
theorem behK_le {l : List S35} (h : RiseP l) (k : ByteArray) : behK k l ≤ l.length := by
  unfold behK
  by_cases hf : fndB (cmpK k) l = true
  · obtain ⟨hc, _⟩ := (fnd_at h k).mp hf
    rw [if_pos hf]
    omega
  · rw [if_neg hf]
    have := cntN_le (cmpK k) l
    omega
theorem beh_at {l : List S35} (h : RiseP l) (k : ByteArray) : ∀ t (ht : t < l.length), behK k l ≤ t → sblt k l[t].f0 = true := by
  intro t ht hb
  have hp := List.pairwise_iff_getElem.mp h
  unfold behK at hb
  by_cases hf : fndB (cmpK k) l = true
  · obtain ⟨hc, e⟩ := (fnd_at h k).mp hf
    rw [if_pos hf] at hb
    rw [← e]
    exact hp _ t hc ht (by omega)
  · rw [if_neg hf] at hb
    have h1 : sblt l[t].f0 k = false := by
      cases h2 : sblt l[t].f0 k with
      | false => rfl
      | true => have := (cnt_at h k t ht).mpr h2; omega
    cases h3 : sblt k l[t].f0 with
    | true => rfl
    | false =>
      exfalso
      have e := sblt_tri h1 h3
      apply hf
      rw [fnd_at h k]
      have hc : cntN (cmpK k) l = t := by
        rcases Nat.lt_or_ge (cntN (cmpK k) l) t with h4 | h4
        · have h5 := hp _ t (by omega) ht h4
          rw [e] at h5
          have := (cnt_at h k _ (by omega)).mpr h5
          omega
        · omega
      exact ⟨by omega, by simp only [hc]; exact e⟩
def putL (l : List S35) (k : ByteArray) (v : Int) : List S35 := l.take (cntN (cmpK k) l) ++ ⟨k, v⟩ :: l.drop (behK k l)
def remL (l : List S35) (k : ByteArray) : List S35 := l.take (cntN (cmpK k) l) ++ l.drop (behK k l)
theorem remL_rise {l : List S35} (h : RiseP l) (k : ByteArray) : RiseP (remL l k) := by
  unfold remL RiseP
  rw [List.pairwise_append]
  refine ⟨h.sublist (List.take_sublist _ _), h.sublist (List.drop_sublist _ _), fun a ha b hb => ?_⟩
  obtain ⟨i, hi, rfl⟩ := List.mem_take_iff_getElem.mp ha
  obtain ⟨j, hj, rfl⟩ := List.mem_drop_iff_getElem.mp hb
  have h1 := (cnt_at h k i (by omega)).mp (by omega)
  have h2 := beh_at h k (behK k l + j) (by omega) (by omega)
  exact sblt_trans h1 h2
theorem putL_rise {l : List S35} (h : RiseP l) (k : ByteArray) (v : Int) : RiseP (putL l k v) := by
  unfold putL RiseP
  rw [List.pairwise_append, List.pairwise_cons]
  refine ⟨h.sublist (List.take_sublist _ _), ⟨fun b hb => ?_, h.sublist (List.drop_sublist _ _)⟩, fun a ha b hb => ?_⟩
  · obtain ⟨j, hj, rfl⟩ := List.mem_drop_iff_getElem.mp hb
    exact beh_at h k (behK k l + j) (by omega) (by omega)
  · obtain ⟨i, hi, rfl⟩ := List.mem_take_iff_getElem.mp ha
    have h1 := (cnt_at h k i (by omega)).mp (by omega)
    rcases List.mem_cons.mp hb with rfl | hb
    · exact h1
    · obtain ⟨j, hj, rfl⟩ := List.mem_drop_iff_getElem.mp hb
      exact sblt_trans h1 (beh_at h k (behK k l + j) (by omega) (by omega))
theorem putL_len (l : List S35) (k : ByteArray) (v : Int) : (putL l k v).length ≤ l.length + 1 := by
  unfold putL
  have h1 := cntN_le (cmpK k) l
  have h2 : cntN (cmpK k) l ≤ behK k l := by unfold behK; omega
  rw [List.length_append, List.length_take, List.length_cons, List.length_drop]
  omega
theorem remL_len (l : List S35) (k : ByteArray) : (remL l k).length ≤ l.length := by
  unfold remL
  have h1 := cntN_le (cmpK k) l
  have h2 : cntN (cmpK k) l ≤ behK k l := by unfold behK; omega
  rw [List.length_append, List.length_take, List.length_drop]
  omega
end Go.Proofs.Ytkmjmgkpcomldaa.Q
end

section
namespace Go.Proofs.Ytkmjmgkpcomldaa.Q
open Go.RowKit Go.Proofs.YtkmjmgkpcomldaaW.PrintWords Go.Proofs.YtkmjmgkpcomldaaW.PrintLast
set_option linter.unusedVariables false
set_option linter.unusedSimpArgs false
theorem behK_found {l : List S35} {k : ByteArray} (h : fndB (cmpK k) l = true) : behK k l = cntN (cmpK k) l + 1 := by
  unfold behK
  rw [if_pos h]
theorem behK_new {l : List S35} {k : ByteArray} (h : fndB (cmpK k) l = false) : behK k l = cntN (cmpK k) l := by
  unfold behK
  rw [h, if_neg (by simp)]
  omega
def edit1 (l : List S35) (e : S66) : List S35 := if e.f2 = true then remL l e.f0 else putL l e.f0 e.f1
theorem edit1_rise {l : List S35} (h : RiseP l) (e : S66) : RiseP (edit1 l e) := by
  unfold edit1
  split
  · exact remL_rise h _
  · exact putL_rise h _ _
theorem edit1_len (l : List S35) (e : S66) : (edit1 l e).length ≤ l.length + 1 := by
  unfold edit1
  split
  · have := remL_len l e.f0
    omega
  · exact putL_len l _ _
theorem clone_e {l : List S35} (h : l.length ≤ 2000000) : impl_Entry_47.f l = some l := by
  unfold impl_Entry_47.f
  simp only [Option.bind_some, List.length_nil, Nat.zero_add, List.nil_append, (show l.length < 5864062014805 by omega), if_true]
theorem delete_at {l : List S35} {c : Nat} (h : c < l.length) (hl : l.length ≤ 2000000) : impl_Entry_82.f l (c : Int) (wrap64 ((c : Int) + 1)) = some (l.take c ++ l.drop (c + 1)) := by
  have hw : wrap64 ((c : Int) + 1) = (c : Int) + 1 := by unfold wrap64; omega
  unfold impl_Entry_82.f
  rw [hw, if_pos (by omega), if_pos rfl, if_pos (by omega), Int.toNat_natCast]
theorem insert_at {l : List S35} {c : Nat} (x : S35) (h : c ≤ l.length) (hl : l.length ≤ 2000000) : impl_Entry_83.f l (c : Int) [x] = some (l.take c ++ x :: l.drop c) := by
  unfold impl_Entry_83.f
  simp only [Int.natCast_nonneg, if_true, (show ((c : Int) ≤ (l.length : Int)) by omega), (show l.length < 5000000 by omega), Int.toNat_natCast, List.append_assoc, List.cons_append, List.nil_append]
theorem edited_loop (ed : List S66) (hed : ed.length ≤ 1000000) : ∀ (d i : Nat) (l : List S35), i + d = ed.length → RiseP l → l.length + d ≤ 1000000 → Ev (fun k => impl_edited.l0 k l ed (ed.length : Int) (i : Int)) ((ed.drop i).foldl edit1 l) := by
  intro d
  induction d with
  | zero =>
    intro i l hi hr hl
    rw [List.drop_of_length_le (by omega)]
    refine Ev.at_ (c := 1) (fun k => ?_)
    simp only [impl_edited.l0]
    rw [if_neg (by omega)]
    rfl
  | succ d ih =>
    intro i l hi hr hl
    have hil : i < ed.length := by omega
    have c1 : (i : Int) < (ed.length : Int) := by omega
    have e1 : rd_T66 ed (i : Int) = ed[i] := by simp [rd_T66, List.getD_eq_getElem?_getD, List.getElem?_eq_getElem hil]
    have hn := ih (i + 1) (edit1 l ed[i]) (by omega) (edit1_rise hr _) (by have := edit1_len l ed[i]; omega)
    rw [List.drop_eq_getElem_cons hil, List.foldl_cons]
    have hcl := cntN_le (cmpK ed[i].f0) l
    refine Ev.succ ?_
    simp only [impl_edited.l0, c1, Int.natCast_nonneg, if_true, e1, find_f hr (show l.length ≤ 1048576 by omega), Option.bind_some, wrap_i (show i < 4611686018427387904 by omega)]
    cases hf : fndB (cmpK ed[i].f0) l with
    | true =>
      obtain ⟨hc, _⟩ := (fnd_at hr ed[i].f0).mp hf
      have hdl : (l.take (cntN (cmpK ed[i].f0) l) ++ l.drop (cntN (cmpK ed[i].f0) l + 1)).length ≤ 2000000 := by
        rw [List.length_append, List.length_take, List.length_drop]; omega
      have hdc : cntN (cmpK ed[i].f0) l ≤ (l.take (cntN (cmpK ed[i].f0) l) ++ l.drop (cntN (cmpK ed[i].f0) l + 1)).length := by
        rw [List.length_append, List.length_take, List.length_drop]; omega
      have ht : (l.take (cntN (cmpK ed[i].f0) l) ++ l.drop (cntN (cmpK ed[i].f0) l + 1)).take (cntN (cmpK ed[i].f0) l) = l.take (cntN (cmpK ed[i].f0) l) := by
        rw [List.take_append_of_le_length (by rw [List.length_take]; omega), List.take_take, Nat.min_self]
      have hdd : (l.take (cntN (cmpK ed[i].f0) l) ++ l.drop (cntN (cmpK ed[i].f0) l + 1)).drop (cntN (cmpK ed[i].f0) l) = l.drop (cntN (cmpK ed[i].f0) l + 1) := by
        rw [List.drop_append, List.drop_eq_nil_of_le (by rw [List.length_take]; omega), List.length_take, Nat.min_eq_left (by omega), Nat.sub_self, List.drop_zero, List.nil_append]
      simp only [if_true, delete_at hc (show l.length ≤ 2000000 by omega), Option.bind_some, insert_at _ hdc hdl, ht, hdd]
      cases hg : ed[i].f2 with
      | true =>
        have he : edit1 l ed[i] = l.take (cntN (cmpK ed[i].f0) l) ++ l.drop (cntN (cmpK ed[i].f0) l + 1) := by
          unfold edit1 remL
          rw [if_pos hg, behK_found hf]
        simp only [if_true]
        rw [he] at hn
        rw [he]
        exact hn
      | false =>
        have he : edit1 l ed[i] = l.take (cntN (cmpK ed[i].f0) l) ++ ⟨ed[i].f0, ed[i].f1⟩ :: l.drop (cntN (cmpK ed[i].f0) l + 1) := by
          unfold edit1 putL
          rw [if_neg (by simp [hg]), behK_found hf]
        simp only [Bool.false_eq_true, if_false]
        rw [he] at hn
        rw [he]
        exact hn
    | false =>
      simp only [Bool.false_eq_true, if_false, insert_at _ hcl (show l.length ≤ 2000000 by omega), Option.bind_some]
      cases hg : ed[i].f2 with
      | true =>
        have he : edit1 l ed[i] = l := by
          unfold edit1 remL
          rw [if_pos hg, behK_new hf, List.take_append_drop]
        simp only [if_true]
        rw [he] at hn
        rw [he]
        exact hn
      | false =>
        have he : edit1 l ed[i] = l.take (cntN (cmpK ed[i].f0) l) ++ ⟨ed[i].f0, ed[i].f1⟩ :: l.drop (cntN (cmpK ed[i].f0) l) := by
          unfold edit1 putL
          rw [if_neg (by simp [hg]), behK_new hf]
        simp only [Bool.false_eq_true, if_false]
        rw [he] at hn
        rw [he]
        exact hn
theorem edited_ev {l : List S35} (ed : List S66) (hr : RiseP l) (hl : l.length + ed.length ≤ 1000000) : Ev (fun k => impl_edited.f k l ed) (ed.foldl edit1 l) := by
  unfold impl_edited.f
  rw [clone_e (by omega)]
  simp only [Option.bind_some]
  have h := edited_loop ed (by omega) ed.length 0 l (by omega) hr hl
  rw [List.drop_zero] at h
  exact h
theorem take_next {l : List S35} {i : Nat} (h : i < l.length) : l.take (i + 1) = l.take i ++ [l[i]] := by
  rw [List.take_add_one, List.getElem?_eq_getElem h]
  rfl
theorem drop_next {l : List S35} {i b : Nat} (h : i < l.length) (hb : b ≤ i) : (l.take (i + 1)).drop b = (l.take i).drop b ++ [l[i]] := by
  rw [take_next h, List.drop_append_of_le_length (by rw [List.length_take]; omega)]
def putAcc (l : List S35) (k : ByteArray) (v : Int) (i : Nat) : List S35 := if i ≤ cntN (cmpK k) l then l.take i else l.take (cntN (cmpK k) l) ++ ⟨k, v⟩ :: (l.take i).drop (behK k l)
theorem putAcc_len (l : List S35) (k : ByteArray) (v : Int) (i : Nat) (hl : l.length ≤ 1000000) : (putAcc l k v i).length < 5864062014805 - 1 := by
  unfold putAcc
  have h1 := cntN_le (cmpK k) l
  split
  · rw [List.length_take]; omega
  · rw [List.length_append, List.length_take, List.length_cons, List.length_drop, List.length_take]; omega
theorem key_ne {l : List S35} (hr : RiseP l) (k : ByteArray) (i : Nat) (hi : i < l.length) (h : i ≠ cntN (cmpK k) l ∨ fndB (cmpK k) l = false) : ¬ (l[i].f0.toList = k.toList) := by
  intro e
  have e2 := toList_inj e
  obtain ⟨h1, h2⟩ := find_some hr hi e2
  rcases h with h | h
  · exact h h1.symm
  · rw [h2] at h; cases h
theorem l01Put_loop {l : List S35} (hr : RiseP l) (k : ByteArray) (v : Int) (hl : l.length ≤ 1000000) : ∀ (d i : Nat), i + d = l.length → Ev (fun q => spec_l01Put.l0 q l k v (putAcc l k v i) (decide (cntN (cmpK k) l < i)) (i : Int)) (putL l k v) := by
  have hcl := cntN_le (cmpK k) l
  have hbl := behK_le hr k
  have hcb : cntN (cmpK k) l ≤ behK k l := by unfold behK; omega
  have hbc : behK k l ≤ cntN (cmpK k) l + 1 := by unfold behK; split <;> omega
  intro d
  induction d with
  | zero =>
    intro i hi
    obtain rfl : i = l.length := by omega
    refine Ev.at_ (c := 1) (fun q => ?_)
    simp only [spec_l01Put.l0]
    rw [if_neg (by omega)]
    by_cases hc : cntN (cmpK k) l < l.length
    · simp only [hc, decide_true, if_true]
      unfold putAcc putL
      rw [if_neg (by omega), List.take_length]
    · have hce : cntN (cmpK k) l = l.length := by omega
      have hlt := putAcc_len l k v l.length hl
      simp only [hc, decide_false, Bool.false_eq_true, if_false, (show (putAcc l k v l.length).length < 5864062014805 by omega), if_true]
      unfold putAcc putL
      rw [if_pos (by omega), hce, List.drop_of_length_le (by omega)]
  | succ d ih =>
    intro i hi
    have hil : i < l.length := by omega
    have c1 : (i : Int) < (l.length : Int) := by omega
    have e1 : rd_T35 l (i : Int) = l[i] := rdEntry hil
    have hn := ih (i + 1) (by omega)
    have hlt := putAcc_len l k v i hl
    have hlt2 : (putAcc l k v i).length < 5864062014805 := by omega
    have w := wrap_i (show i < 4611686018427387904 by omega)
    rcases Nat.lt_trichotomy i (cntN (cmpK k) l) with hic | hic | hic
    · -- ahead of the key
      have hless : Op.bytesLess l[i].f0.toList k.toList = true := (cnt_at hr k i hil).mp hic
      have hne := key_ne hr k i hil (.inl (by omega))
      have d0 : decide (cntN (cmpK k) l < i) = false := decide_eq_false (by omega)
      have d1 : decide (cntN (cmpK k) l < i + 1) = false := decide_eq_false (by omega)
      have ha : putAcc l k v (i + 1) = putAcc l k v i ++ [l[i]] := by
        unfold putAcc
        rw [if_pos (by omega), if_pos (by omega), take_next hil]
      rw [d1, ha] at hn
      refine Ev.succ (Ev.succ ?_)
      simp only [spec_l01Put.l0, spec_l01Put.j1, c1, if_true, d0, Bool.false_eq_true, if_false, Int.natCast_nonneg, e1, hless, Bool.not_true, hne, hlt2, w]
      exact hn
    · -- at its place
      have hless : Op.bytesLess l[i].f0.toList k.toList = false := by
        cases hb : Op.bytesLess l[i].f0.toList k.toList with
        | false => rfl
        | true =>
          have := (cnt_at hr k i hil).mpr hb
          omega
      have d0 : decide (cntN (cmpK k) l < i) = false := decide_eq_false (by omega)
      have d1 : decide (cntN (cmpK k) l < i + 1) = true := decide_eq_true (by omega)
      have ha0 : putAcc l k v i = l.take i := by unfold putAcc; rw [if_pos (by omega)]
      have hlt3 : (l.take i ++ [(⟨k, v⟩ : S35)]).length < 5864062014805 := by rw [List.length_append, List.length_take, List.length_singleton]; omega
      have hlt4 : (l.take i).length < 5864062014805 := by rw [List.length_take]; omega
      have ha1 : putAcc l k v (i + 1) = l.take i ++ ⟨k, v⟩ :: (l.take (i + 1)).drop (behK k l) := by unfold putAcc; rw [if_neg (by omega), ← hic]
      rw [d1, ha1] at hn
      refine Ev.succ (Ev.succ ?_)
      simp only [spec_l01Put.l0, spec_l01Put.j1, c1, if_true, d0, Bool.false_eq_true, if_false, Int.natCast_nonneg, e1, hless, Bool.not_false, ha0, hlt4, Option.bind_some, w]
      cases hf : fndB (cmpK k) l with
      | true =>
        obtain ⟨hc, hk⟩ := (fnd_at hr k).mp hf
        have hkk : l[i].f0.toList = k.toList := by
          have : l[i].f0 = k := by simpa [hic] using hk
          rw [this]
        simp only [hkk, if_true]
        rw [behK_found hf, ← hic, List.drop_of_length_le (by rw [List.length_take]; omega)] at hn
        exact hn
      | false =>
        have hne := key_ne hr k i hil (.inr hf)
        simp only [hne, if_false, hlt3, if_true]
        rw [behK_new hf, ← hic, drop_next hil (Nat.le_refl i), List.drop_of_length_le (by rw [List.length_take]; omega), List.nil_append] at hn
        rw [List.append_assoc]
        exact hn
    · -- behind it
      have hne := key_ne hr k i hil (.inl (by omega))
      have d0 : decide (cntN (cmpK k) l < i) = true := decide_eq_true hic
      have d1 : decide (cntN (cmpK k) l < i + 1) = true := decide_eq_true (by omega)
      have ha : putAcc l k v (i + 1) = putAcc l k v i ++ [l[i]] := by
        unfold putAcc
        rw [if_neg (by omega), if_neg (by omega), drop_next hil (by omega), List.append_assoc, List.cons_append]
      rw [d1, ha] at hn
      refine Ev.succ (Ev.succ ?_)
      simp only [spec_l01Put.l0, spec_l01Put.j1, c1, if_true, d0, Bool.false_eq_true, if_false, Int.natCast_nonneg, e1, hne, hlt2, w]
      exact hn
theorem l01Put_ev {l : List S35} (hr : RiseP l) (k : ByteArray) (v : Int) (hl : l.length ≤ 1000000) : Ev (fun q => spec_l01Put.f q l k v) (putL l k v) := by
  unfold spec_l01Put.f
  have h := l01Put_loop hr k v hl l.length 0 (by omega)
  have e : putAcc l k v 0 = [] := by unfold putAcc; rw [if_pos (Nat.zero_le _), List.take_zero]
  have d : decide (cntN (cmpK k) l < 0) = false := decide_eq_false (by omega)
  rw [e, d] at h
  exact h
def remAcc (l : List S35) (k : ByteArray) (i : Nat) : List S35 := if i ≤ cntN (cmpK k) l then l.take i else l.take (cntN (cmpK k) l) ++ (l.take i).drop (behK k l)
theorem l01Remove_loop {l : List S35} (hr : RiseP l) (k : ByteArray) (hl : l.length ≤ 1000000) : ∀ (d i : Nat), i + d = l.length → Ev (fun q => spec_l01Remove.l0 q l k (remAcc l k i) (i : Int)) (remL l k) := by
  have hcl := cntN_le (cmpK k) l
  have hbl := behK_le hr k
  have hcb : cntN (cmpK k) l ≤ behK k l := by unfold behK; omega
  have hbc : behK k l ≤ cntN (cmpK k) l + 1 := by unfold behK; split <;> omega
  intro d
  induction d with
  | zero =>
    intro i hi
    obtain rfl : i = l.length := by omega
    refine Ev.at_ (c := 1) (fun q => ?_)
    simp only [spec_l01Remove.l0]
    rw [if_neg (by omega)]
    unfold remAcc remL
    by_cases hc : cntN (cmpK k) l < l.length
    · rw [if_neg (by omega), List.take_length]
    · have hce : cntN (cmpK k) l = l.length := by omega
      rw [if_pos (by omega), hce, List.drop_of_length_le (by omega), List.append_nil]
  | succ d ih =>
    intro i hi
    have hil : i < l.length := by omega
    have c1 : (i : Int) < (l.length : Int) := by omega
    have e1 : rd_T35 l (i : Int) = l[i] := rdEntry hil
    have hn := ih (i + 1) (by omega)
    have hlt2 : (remAcc l k i).length < 5864062014805 := by
      unfold remAcc
      split
      · rw [List.length_take]; omega
      · rw [List.length_append, List.length_take, List.length_drop, List.length_take]; omega
    have w := wrap_i (show i < 4611686018427387904 by omega)
    by_cases hat : i = cntN (cmpK k) l ∧ fndB (cmpK k) l = true
    · obtain ⟨hic, hf⟩ := hat
      obtain ⟨hc, hk⟩ := (fnd_at hr k).mp hf
      have hkk : l[i].f0.toList = k.toList := by
        have : l[i].f0 = k := by simpa [hic] using hk
        rw [this]
      have ha : remAcc l k (i + 1) = remAcc l k i := by
        unfold remAcc
        rw [if_neg (by omega), if_pos (by omega), behK_found hf, ← hic, List.drop_of_length_le (by rw [List.length_take]; omega), List.append_nil]
      rw [ha] at hn
      refine Ev.succ ?_
      simp only [spec_l01Remove.l0, c1, if_true, Int.natCast_nonneg, e1, hkk, w]
      exact hn
    · have hne := key_ne hr k i hil (by
        by_cases h1 : i = cntN (cmpK k) l
        · right
          cases hf : fndB (cmpK k) l with
          | false => rfl
          | true => exact absurd ⟨h1, hf⟩ hat
        · exact .inl h1)
      have ha : remAcc l k (i + 1) = remAcc l k i ++ [l[i]] := by
        unfold remAcc
        rcases Nat.lt_trichotomy i (cntN (cmpK k) l) with hic | hic | hic
        · rw [if_pos (by omega), if_pos (by omega), take_next hil]
        · have hf : fndB (cmpK k) l = false := by
            cases hf : fndB (cmpK k) l with
            | false => rfl
            | true => exact absurd ⟨hic, hf⟩ hat
          rw [if_neg (by omega), if_pos (by omega), behK_new hf, ← hic, drop_next hil (Nat.le_refl i), List.drop_of_length_le (by rw [List.length_take]; omega), List.nil_append]
        · rw [if_neg (by omega), if_neg (by omega), drop_next hil (by omega), List.append_assoc]
      rw [ha] at hn
      refine Ev.succ ?_
      simp only [spec_l01Remove.l0, c1, if_true, Int.natCast_nonneg, e1, hne, if_false, hlt2, w]
      exact hn
theorem l01Remove_ev {l : List S35} (hr : RiseP l) (k : ByteArray) (hl : l.length ≤ 1000000) : Ev (fun q => spec_l01Remove.f q l k) (remL l k) := by
  unfold spec_l01Remove.f
  have h := l01Remove_loop hr k hl l.length 0 (by omega)
  have e : remAcc l k 0 = [] := by unfold remAcc; rw [if_pos (Nat.zero_le _), List.take_zero]
  rw [e] at h
  exact h
end Go.Proofs.Ytkmjmgkpcomldaa.Q
end

section
namespace Go.Proofs.Ytkmjmgkpcomldaa.Q
open Go.RowKit Go.Proofs.YtkmjmgkpcomldaaW.PrintWords Go.Proofs.YtkmjmgkpcomldaaW.PrintLast
set_option linter.unusedVariables false
set_option linter.unusedSimpArgs false
theorem wid {x : Int} (h0 : -9223372036854775808 ≤ x) (h1 : x ≤ 9223372036854775807) : wrap64 x = x := by unfold wrap64; omega
theorem tmod_in {x n : Int} (h0 : 0 ≤ x) (hn : 0 < n) : 0 ≤ Int.tmod x n ∧ Int.tmod x n < n := by
  rw [Int.tmod_eq_emod_of_nonneg h0]
  exact ⟨Int.emod_nonneg _ (by omega), Int.emod_lt_of_pos _ hn⟩
def bytesOK (l : List Int) : Prop := ∀ x, x ∈ l → 0 ≤ x ∧ x ≤ 255
theorem rd_in {l : List Int} (hl : bytesOK l) {a : Int} (h0 : 0 ≤ a) (h1 : a < (l.length : Int)) : 0 ≤ rd l a ∧ rd l a ≤ 255 := by
  have h2 : a.toNat < l.length := by omega
  have e : rd l a = l[a.toNat] := by
    unfold rd
    rw [List.getD_eq_getElem?_getD, List.getElem?_eq_getElem h2]
    rfl
  rw [e]
  exact hl _ (List.getElem_mem h2)
def seedOK (a s : Int) : Prop := 0 ≤ a ∧ a ≤ 1000000000 ∧ 0 ≤ s ∧ s < 2147483648
theorem byte_ev {l : List Int} (hl : bytesOK l) {a s : Int} (h : seedOK a s) : ∃ b s', spec_l00Src_byte.f l a s = some (b, a + 1, s') ∧ 0 ≤ b ∧ b ≤ 255 ∧ 0 ≤ s' ∧ s' < 2147483648 := by
  obtain ⟨h0, h1, h2, h3⟩ := h
  have w1 : wrap64 (a + 1) = a + 1 := wid (by omega) (by omega)
  have w2 : wrap64 (a + 1 - 1) = a := (wid (by omega) (by omega)).trans (by omega)
  unfold spec_l00Src_byte.f
  rw [w1, w2]
  by_cases c1 : a + 1 ≤ (l.length : Int)
  · have c2 : a < (l.length : Int) := by omega
    obtain ⟨g0, g1⟩ := rd_in hl h0 c2
    generalize rd l a = b at g0 g1
    have w3 : wrap64 b = b := wid (by omega) (by omega)
    have w4 : wrap64 (s * 31) = s * 31 := wid (by omega) (by omega)
    have w5 : wrap64 (s * 31 + b) = s * 31 + b := wid (by omega) (by omega)
    have w6 : wrap64 (s * 31 + b + 7) = s * 31 + b + 7 := wid (by omega) (by omega)
    rw [if_pos c1, if_pos h0, if_pos c2, w3, w4, w5, w6]
    obtain ⟨t0, t1⟩ := tmod_in (x := s * 31 + b + 7) (n := 2147483648) (by omega) (by decide)
    exact ⟨_, _, rfl, g0, g1, t0, t1⟩
  · rw [if_neg c1]
    have w4 : wrap64 (s * 1103515245) = s * 1103515245 := wid (by omega) (by omega)
    have w5 : wrap64 (s * 1103515245 + 12345) = s * 1103515245 + 12345 := wid (by omega) (by omega)
    by_cases c2 : a + 1 > 3000
    · rw [if_pos c2]
      exact ⟨_, _, rfl, by omega, by omega, h2, h3⟩
    · rw [if_neg c2, w4, w5]
      obtain ⟨t0, t1⟩ := tmod_in (x := s * 1103515245 + 12345) (n := 2147483648) (by omega) (by decide)
      generalize Int.tmod (s * 1103515245 + 12345) 2147483648 = q at t0 t1
      have d0 : Int.tdiv q 65536 = q / 65536 := Int.tdiv_eq_ediv_of_nonneg t0
      have w6 : wrap64 (q / 65536) = q / 65536 := wid (by omega) (by omega)
      rw [d0, w6]
      obtain ⟨u0, u1⟩ := tmod_in (x := q / 65536) (n := 256) (by omega) (by decide)
      exact ⟨_, _, rfl, u0, by omega, t0, t1⟩
theorem next_ev {l : List Int} (hl : bytesOK l) {a s : Int} (h : seedOK a s) (n : Int) (h1 : 1 ≤ n) (h2 : n ≤ 256) : ∃ v a' s', spec_l00Src_next.f l a s n = some (v, a', s') ∧ 0 ≤ v ∧ v < n ∧ a ≤ a' ∧ a' ≤ a + 1 ∧ 0 ≤ s' ∧ s' < 2147483648 := by
  unfold spec_l00Src_next.f
  by_cases c1 : n ≤ 1
  · rw [if_pos c1]
    exact ⟨0, a, s, rfl, by omega, by omega, by omega, by omega, h.2.2.1, h.2.2.2⟩
  · rw [if_neg c1, if_pos h2]
    obtain ⟨b, s', e, g0, g1, g2, g3⟩ := byte_ev hl h
    rw [e]
    simp only [Option.bind_some]
    rw [if_neg (by omega)]
    obtain ⟨t0, t1⟩ := tmod_in (x := b) (n := n) g0 (by omega)
    exact ⟨_, _, _, rfl, t0, t1, by omega, by omega, g2, g3⟩
theorem pick_ev {l : List Int} (hl : bytesOK l) {a s : Int} (h : seedOK a s) (ts : List ByteArray) (h1 : 1 ≤ ts.length) (h2 : ts.length ≤ 256) : ∃ t a' s', spec_l00Src_pick.f l a s ts = some (t, a', s') ∧ t ∈ ts ∧ a ≤ a' ∧ a' ≤ a + 1 ∧ 0 ≤ s' ∧ s' < 2147483648 := by
  unfold spec_l00Src_pick.f
  rw [if_neg (by omega)]
  obtain ⟨v, a', s', e, g0, g1, g2, g3, g4, g5⟩ := next_ev hl h (ts.length : Int) (by omega) (by omega)
  rw [e]
  simp only [Option.bind_some]
  rw [if_pos g0, if_pos g1]
  have hv : v.toNat < ts.length := by omega
  have er : rdOf ByteArray.empty ts v = ts[v.toNat] := by
    unfold rdOf
    rw [List.getD_eq_getElem?_getD, List.getElem?_eq_getElem hv]
    rfl
  refine ⟨_, _, _, rfl, ?_, g2, g3, g4, g5⟩
  rw [er]
  exact List.getElem_mem hv
theorem key_ev {l : List Int} (hl : bytesOK l) {a s : Int} (h : seedOK a s) : ∃ t a' s', spec_l00Src_key.f l a s = some (t, a', s') ∧ nameB t = true ∧ a ≤ a' ∧ a' ≤ a + 1 ∧ 0 ≤ s' ∧ s' < 2147483648 := by
  unfold spec_l00Src_key.f
  obtain ⟨t, a', s', e, ht, g⟩ := pick_ev hl h [(⟨#[97]⟩ : ByteArray), (⟨#[98]⟩ : ByteArray), (⟨#[99]⟩ : ByteArray), (⟨#[100]⟩ : ByteArray), (⟨#[101]⟩ : ByteArray), (⟨#[107, 49]⟩ : ByteArray), (⟨#[107, 50]⟩ : ByteArray), (⟨#[122, 122]⟩ : ByteArray)] (by decide) (by decide)
  rw [e]
  refine ⟨t, a', s', rfl, ?_, g⟩
  simp only [List.mem_cons, List.mem_nil_iff, or_false] at ht
  rcases ht with rfl | rfl | rfl | rfl | rfl | rfl | rfl | rfl <;> kernel_rfl
def goodM (n : Nat) (m : List S35) : Prop := RiseP m ∧ m.length ≤ n ∧ ∀ x, x ∈ m → nameB x.f0 = true ∧ 0 ≤ x.f1 ∧ x.f1 ≤ 1000
theorem goodM_put {n : Nat} {m : List S35} (h : goodM n m) {k : ByteArray} {v : Int} (hk : nameB k = true) (h0 : 0 ≤ v) (h1 : v ≤ 1000) : goodM (n + 1) (putL m k v) := by
  obtain ⟨hr, hl, hx⟩ := h
  refine ⟨putL_rise hr k v, by have := putL_len m k v; omega, fun x hx2 => ?_⟩
  unfold putL at hx2
  rcases List.mem_append.mp hx2 with hx2 | hx2
  · exact hx x (List.mem_of_mem_take hx2)
  · rcases List.mem_cons.mp hx2 with rfl | hx2
    · exact ⟨hk, h0, h1⟩
    · exact hx x (List.mem_of_mem_drop hx2)
theorem goodM_map {m : List S35} {n : Nat} (h : goodM n m) (hn : n ≤ 12) : mapB m = true := by
  obtain ⟨hr, hl, hx⟩ := h
  unfold mapB
  rw [Bool.and_eq_true]
  refine ⟨decide_eq_true (by omega), allR_iff.mpr (fun j hj => ?_)⟩
  unfold entAt entB
  obtain ⟨h1, h2, h3⟩ := hx m[j] (List.getElem_mem hj)
  rw [rdEntry hj, h1]
  have hv : inB m[j].f1 (-1000000) 1000000 = true := by
    unfold inB
    rw [decide_eq_true (by omega), decide_eq_true (by omega)]
    rfl
  rw [hv]
  cases j with
  | zero => rfl
  | succ j =>
    have e : (((j + 1 : Nat) : Int) - 1) = (j : Int) := by omega
    rw [e, rdEntry (i := j) (by omega), List.pairwise_iff_getElem.mp hr j (j + 1) (by omega) hj (by omega)]
    simp
theorem entries_loop {l : List Int} (hl : bytesOK l) : ∀ (d n : Nat) (m : List S35) (a s : Int), n + d ≤ 12 → goodM n m → 0 ≤ a → a + 10 * d ≤ 1000000000 → 0 ≤ s → s < 2147483648 → ∃ r a' s', Ev (fun k => spec_l00Src_entries.l0 k m (d : Int) l a s) (r, a', s') ∧ goodM (n + d) r := by
  intro d
  induction d with
  | zero =>
    intro n m a s hn hm _ _ _ _
    have c : ¬ (((0 : Nat) : Int) > 0) := by decide
    exact ⟨m, a, s, Ev.at_ (c := 1) (fun k => by simp only [spec_l00Src_entries.l0, if_neg c]), hm⟩
  | succ d ih =>
    intro n m a s hn hm h0 h1 h2 h3
    have c : ((d + 1 : Nat) : Int) > 0 := by omega
    obtain ⟨t, a1, s1, e1, hk, b1, b2, b3, b4⟩ := key_ev hl (a := a) (s := s) ⟨h0, by omega, h2, h3⟩
    obtain ⟨v, a2, s2, e2, v1, v2, d1, d2, d3, d4⟩ := next_ev hl (a := a1) (s := s1) ⟨by omega, by omega, b3, b4⟩ 9 (by decide) (by decide)
    have hp := l01Put_ev hm.1 t v (by have := hm.2.1; omega)
    obtain ⟨r, a', s', e3, hr⟩ := ih (n + 1) (putL m t v) a2 s2 (by omega) (goodM_put hm hk v1 (by omega)) (by omega) (by omega) d3 d4
    have ew : wrap64 (((d + 1 : Nat) : Int) - 1) = (d : Int) := (wid (by omega) (by omega)).trans (by omega)
    refine ⟨r, a', s', Ev.succ ?_, by rw [show n + (d + 1) = n + 1 + d by omega]; exact hr⟩
    simp only [spec_l00Src_entries.l0, if_pos c, e1, e2, Option.bind_some, ew]
    exact Ev.bind hp e3
theorem drawn_ev (l : List Int) (hl : bytesOK l) (hlen : l.length ≤ 1048576) : ∃ m, Ev (fun k => spec_EntriesDrawn.f k l) m ∧ goodM 5 m := by
  have hs : seedOK 0 ((l.length : Int) % 1000) := ⟨by omega, by omega, by omega, by omega⟩
  obtain ⟨v, a1, s1, e1, v1, v2, d1, d2, d3, d4⟩ := next_ev hl hs 6 (by decide) (by decide)
  obtain ⟨n, rfl⟩ := Int.eq_ofNat_of_zero_le v1
  have h0 : goodM 0 ([] : List S35) := ⟨List.Pairwise.nil, by simp, by simp⟩
  obtain ⟨r, a', s', e2, hr⟩ := entries_loop hl n 0 [] a1 s1 (by omega) h0 (by omega) (by omega) d3 d4
  refine ⟨r, ?_, hr.1, by have := hr.2.1; omega, hr.2.2⟩
  unfold spec_EntriesDrawn.f spec_l00Source.f
  simp only [Option.bind_some]
  refine Ev.bind (a := (r, a', s')) ?_ (Ev.now _)
  unfold spec_l00Src_entries.f
  simp only [e1, Option.bind_some]
  exact e2
theorem bytes_wf {l : List Int} (h : ∀ x ∈ l, (Lit.int .u8 x).wf = true) : bytesOK l := by
  intro x hx
  have h1 := h x hx
  simp only [Lit.wf, Bool.and_eq_true, decide_eq_true_eq] at h1
  rw [show IntKind.min .u8 = 0 from by decide, show IntKind.max .u8 = 255 from by decide] at h1
  exact h1
end Go.Proofs.Ytkmjmgkpcomldaa.Q
end

section
namespace Go.Proofs.Ytkmjmgkpcomldaa.Q
open Go.RowKit Go.Proofs.YtkmjmgkpcomldaaW.PrintWords Go.Proofs.YtkmjmgkpcomldaaW.PrintLast
set_option linter.unusedVariables false
set_option linter.unusedSimpArgs false
theorem neEntry (x y : S35) : ((!(x.f0.toList == y.f0.toList) || !(x.f1 == y.f1)) = true) ↔ x ≠ y := by
  constructor
  · rintro h rfl
    simp at h
  · intro h
    cases h1 : (!(x.f0.toList == y.f0.toList) || !(x.f1 == y.f1)) with
    | true => rfl
    | false =>
      simp only [Bool.or_eq_false_iff, Bool.not_eq_false', beq_iff_eq] at h1
      exfalso
      apply h
      cases x; cases y
      simp only at h1
      obtain ⟨h2, h3⟩ := h1
      rw [toList_inj h2, h3]
theorem equalMap_ev (a b : List S35) (ha : a.length ≤ 1048576) : ∃ r, Ev (fun k => impl_Entry_50.f k a b) r ∧ (r = true ↔ a = b) := by
  by_cases hl : a.length = b.length
  · have c : (a.length : Int) = (b.length : Int) := by omega
    obtain ⟨r, hr, h⟩ := ev_same_loop (L := fun k i => impl_Entry_50.l0 k a b (a.length : Int) i) hl (fun i h1 h2 e k => by
      have c1 : (i : Int) < (a.length : Int) := by omega
      have c2 : (i : Int) < (b.length : Int) := by omega
      have e2 : ¬ ((!(a[i].f0.toList == b[i].f0.toList) || !(a[i].f1 == b[i].f1)) = true) := fun h => (neEntry _ _).mp h e
      simp only [impl_Entry_50.l0, rdEntry h1, rdEntry h2, c1, c2, Int.natCast_nonneg, if_true, e2, Bool.false_eq_true, if_false, wrap_i (show i < 4611686018427387904 by omega)]) (fun i h1 h2 e k => by
      have c1 : (i : Int) < (a.length : Int) := by omega
      have c2 : (i : Int) < (b.length : Int) := by omega
      have e2 := (neEntry _ _).mpr e
      simp only [impl_Entry_50.l0, rdEntry h1, rdEntry h2, c1, c2, Int.natCast_nonneg, if_true, e2]) (fun k => by
      simp only [impl_Entry_50.l0]
      rw [if_neg (by omega)])
    exact ⟨r, Ev.congr (f := fun k => impl_Entry_50.l0 k a b (a.length : Int) 0) (fun k => by unfold impl_Entry_50.f; rw [if_pos c]) hr, h⟩
  · refine ⟨false, Ev.congr (f := fun _ => some false) (fun k => by unfold impl_Entry_50.f; rw [if_neg (by omega)]) (Ev.now _), by simp, fun e => absurd (by rw [e]) hl⟩
end Go.Proofs.Ytkmjmgkpcomldaa.Q
end

section
namespace Go.Proofs.Ytkmjmgkpcomldaa.Q
open Go.RowKit Go.Proofs.YtkmjmgkpcomldaaW.PrintWords Go.Proofs.YtkmjmgkpcomldaaW.PrintLast
theorem isValue_f (n : Int) : impl_isValue.f n = some (inB n (-1000000) 1000000) := by
  unfold impl_isValue.f impl_within.f inB
  by_cases h : (-1000000 : Int) ≤ n <;> simp [h]
theorem mapOK_l0 (l : List S35) (hlen : l.length ≤ 4611686018427387904) (d : Nat) : ∀ i : Nat, i + d = l.length → (∀ j, j < i → entAt l j = true) → Ev (fun k => impl_MapOK.l0 k l l (l.length : Int) (i : Int)) (mapB l) := by
  induction d with
  | zero =>
    intro i hi hp
    have e : mapB l = decide ((l.length : Int) ≤ 12) := by
      unfold mapB
      rw [allR_true (fun j hj => hp j (by omega)), Bool.and_true]
      by_cases h : l.length ≤ 12
      · rw [decide_eq_true h, decide_eq_true (by omega)]
      · rw [decide_eq_false h, decide_eq_false (by omega)]
    rw [e]
    exact Ev.step (f := fun _ => some (decide ((l.length : Int) ≤ 12))) (fun k => by simp only [impl_MapOK.l0]; rw [if_neg (by omega)]) (Ev.now _)
  | succ d ih =>
    intro i hi hp
    have hw : wrap64 ((i : Int) + 1) = ((i + 1 : Nat) : Int) := by unfold wrap64; omega
    have hbad : entAt l i = false → mapB l = false := fun h => by
      unfold mapB
      rw [allR_false (j := i) (by omega) h, Bool.and_false]
    have hgo : entAt l i = true → Ev (fun k => impl_MapOK.l0 k l l (l.length : Int) ((i + 1 : Nat) : Int)) (mapB l) := fun h => ih (i + 1) (by omega) (fun j hj => by
      by_cases e : j = i
      · rw [e]; exact h
      · exact hp j (by omega))
    have E : entAt l i = (nameB (rd_T35 l (i : Int)).f0 && inB (rd_T35 l (i : Int)).f1 (-1000000) 1000000 && (i == 0 || sblt (rd_T35 l ((i : Int) - 1)).f0 (rd_T35 l (i : Int)).f0)) := rfl
    have c1 : (i : Int) < (l.length : Int) := by omega
    have c2 : (0 : Int) ≤ (i : Int) := by omega
    cases hN : nameB (rd_T35 l (i : Int)).f0 with
    | false =>
      rw [hbad (by rw [E, hN]; rfl)]
      refine Ev.step (f := fun _ => some false) (fun k => ?_) (Ev.now _)
      simp only [impl_MapOK.l0, impl_NameOK.f, hN, if_pos c1, if_pos c2, Option.bind_some, Bool.false_eq_true, if_false]
    | true =>
      cases hV : inB (rd_T35 l (i : Int)).f1 (-1000000) 1000000 with
      | false =>
        rw [hbad (by rw [E, hN, hV]; rfl)]
        refine Ev.step (f := fun _ => some false) (fun k => ?_) (Ev.now _)
        simp only [impl_MapOK.l0, impl_NameOK.f, isValue_f, hN, hV, if_pos c1, if_pos c2, Option.bind_some, Bool.false_eq_true, if_false, if_true]
      | true =>
        by_cases hz : i = 0
        · have hg := hgo (by rw [E, hN, hV]; simp [hz])
          refine Ev.step (fun k => ?_) hg
          have c3 : ¬ ((i : Int) > 0) := by omega
          simp only [impl_MapOK.l0, impl_NameOK.f, isValue_f, hN, hV, if_pos c1, if_pos c2, if_neg c3, Option.bind_some, if_true, hw]
        · have c3 : (i : Int) > 0 := by omega
          have hw2 : wrap64 ((i : Int) - 1) = (i : Int) - 1 := by unfold wrap64; omega
          have c4 : (0 : Int) ≤ (i : Int) - 1 := by omega
          have c5 : (i : Int) - 1 < (l.length : Int) := by omega
          have z : (i == 0) = false := by simp [hz]
          cases hS : sblt (rd_T35 l ((i : Int) - 1)).f0 (rd_T35 l (i : Int)).f0 with
          | false =>
            rw [hbad (by rw [E, hN, hV, hS, z]; rfl)]
            have hS1 : Op.bytesLess (rd_T35 l ((i : Int) - 1)).f0.toList (rd_T35 l (i : Int)).f0.toList = false := hS
            refine Ev.step (f := fun _ => some false) (fun k => ?_) (Ev.now _)
            simp only [impl_MapOK.l0, impl_NameOK.f, isValue_f, hN, hV, hS1, hw2, if_pos c1, if_pos c2, if_pos c3, if_pos c4, if_pos c5, Option.bind_some, if_true, Bool.false_eq_true, if_false]
          | true =>
            have hg := hgo (by rw [E, hN, hV, hS]; simp)
            have hS1 : Op.bytesLess (rd_T35 l ((i : Int) - 1)).f0.toList (rd_T35 l (i : Int)).f0.toList = true := hS
            refine Ev.step (fun k => ?_) hg
            simp only [impl_MapOK.l0, impl_NameOK.f, isValue_f, hN, hV, hS1, hw2, if_pos c1, if_pos c2, if_pos c3, if_pos c4, if_pos c5, Option.bind_some, if_true, hw]
theorem mapOK_ev (l : List S35) (hlen : l.length ≤ 4611686018427387904) : Ev (fun k => impl_MapOK.f k l) (mapB l) := mapOK_l0 l hlen l.length 0 (by omega) (fun j hj => absurd hj (Nat.not_lt_zero _))
end Go.Proofs.Ytkmjmgkpcomldaa.Q
end

section
namespace Go.Proofs.Ytkmjmgkpcomldaa.Q
open Go.RowKit Go.Proofs.YtkmjmgkpcomldaaW.PrintWords Go.Proofs.YtkmjmgkpcomldaaW.PrintLast
theorem l00Word_ev (s : ByteArray) : Ev (fun k => spec_l00Word.f k s) (nameB s) := Ev.of (fun k => spec_l00Word.mono s k) (l00Word_f s)
theorem l01In_is (a b c : Int) : spec_l01In.f a b c = some (inB a b c) := by
  unfold spec_l01In.f inB
  by_cases h : b ≤ a <;> simp [h]
end Go.Proofs.Ytkmjmgkpcomldaa.Q
end

section
namespace Go.Proofs.Ytkmjmgkpcomldaa.Q
open Go.RowKit Go.Proofs.YtkmjmgkpcomldaaW.PrintWords Go.Proofs.YtkmjmgkpcomldaaW.PrintLast
set_option linter.unusedVariables false
set_option linter.unusedSimpArgs false
def isKey (k : ByteArray) (x : S35) : Bool := x.f0.toList == k.toList
theorem l01At_ev (l : List S35) (n : ByteArray) (hlen : l.length ≤ 1048576) : Ev (fun k => spec_l01At.f k l n) (idxI (isKey n) l) := by
  refine ev_idx_loop (L := fun k i => spec_l01At.l0 k l n i) (q := isKey n) ?_ ?_ ?_
  · intro i hi hq k
    have hq2 : ¬ (l[i].f0.toList = n.toList) := by simpa [isKey] using hq
    have c1 : (i : Int) < (l.length : Int) := by omega
    simp only [spec_l01At.l0, rdEntry hi, c1, hq2, if_true, if_false, Int.natCast_nonneg, wrap_i (show i < 4611686018427387904 by omega)]
  · intro i hi hq k
    have hq2 : l[i].f0.toList = n.toList := by simpa [isKey] using hq
    have c1 : (i : Int) < (l.length : Int) := by omega
    simp only [spec_l01At.l0, rdEntry hi, c1, hq2, if_true, Int.natCast_nonneg]
  · intro k
    simp only [spec_l01At.l0]
    rw [if_neg (by omega)]
theorem key_cases {l : List S35} (h : RiseP l) (hl : l.length ≤ 1048576) (n : ByteArray) :
    (idxI (isKey n) l = -1 ∧ impl_find.f l n = some (((cntN (cmpK n) l : Nat) : Int), false) ∧ ∀ i (hi : i < l.length), l[i].f0 ≠ n) ∨
    ∃ (i : Nat) (hi : i < l.length), idxI (isKey n) l = (i : Int) ∧ impl_find.f l n = some ((i : Int), true) ∧ l[i].f0 = n := by
  unfold idxI
  cases hx : l.findIdx? (isKey n) with
  | none =>
    have h0 := List.findIdx?_eq_none_iff.mp hx
    have hn : ∀ i (hi : i < l.length), l[i].f0 ≠ n := by
      rintro i hi rfl
      have := h0 _ (List.getElem_mem hi)
      simp [isKey] at this
    exact .inl ⟨rfl, by rw [find_f h hl, find_none hn], hn⟩
  | some i =>
    obtain ⟨hi, hp, _⟩ := List.findIdx?_eq_some_iff_getElem.mp hx
    have hk : l[i].f0 = n := toList_inj (by simpa [isKey] using hp)
    obtain ⟨h1, h2⟩ := find_some h hi hk
    exact .inr ⟨i, hi, rfl, by rw [find_f h hl, h1, h2], hk⟩
def mapBig (l : List S35) (n : ByteArray) : Prop := (l.length : Int) > 4096 ∨ (n.size : Int) > 65536
theorem keyCode_small {l : List S35} {n : ByteArray} (h : ¬ mapBig l n) : Ev (fun k => impl_keyCode.f k l n) (if (mapB l && nameB n) = true then 0 else 1) := by
  have h1 : (l.length : Int) ≤ 4096 := by unfold mapBig at h; omega
  have h2 : (n.size : Int) ≤ 65536 := by unfold mapBig at h; omega
  refine Ev.succ ?_
  unfold impl_keyCode.f impl_Entry_52.f impl_isText.f
  simp only [Option.bind_some, h1, h2, decide_true, if_true, impl_keyCode.j0, Bool.not_true, Bool.false_eq_true, if_false, impl_NameOK.f]
  refine Ev.bind (mapOK_ev l (by omega)) ?_
  cases mapB l
  · simp only [Bool.false_eq_true, if_false, Bool.false_and]; exact Ev.now _
  · cases nameB n
    · simp only [Bool.false_eq_true, if_true, if_false, Bool.and_false]; exact Ev.now _
    · simp only [if_true, Bool.and_true]; exact Ev.now _
theorem l01Ask_small {l : List S35} {n : ByteArray} (h : ¬ mapBig l n) : Ev (fun k => spec_l01Ask.f k l n) (if (mapB l && nameB n) = true then 0 else 1) := by
  have h1 : ¬ (l.length : Int) > 4096 := by unfold mapBig at h; omega
  have h2 : ¬ (n.size : Int) > 65536 := by unfold mapBig at h; omega
  refine Ev.succ ?_
  unfold spec_l01Ask.f
  simp only [h1, h2, if_false, decide_false, spec_l01Ask.j0, Bool.false_eq_true, spec_l01OK.f, Option.bind_some]
  cases mapB l
  · simp only [Bool.false_eq_true, if_false, Bool.false_and]; exact Ev.now _
  · simp only [if_true]
    refine Ev.bind (l00Word_ev n) ?_
    cases nameB n
    · simp only [Bool.false_eq_true, if_false, Bool.and_false]; exact Ev.now _
    · simp only [if_true, Bool.and_true]; exact Ev.now _
end Go.Proofs.Ytkmjmgkpcomldaa.Q
end

section
namespace Go.Proofs.Ytkmjmgkpcomldaa.Q
open Go.RowKit Go.Proofs.YtkmjmgkpcomldaaW.PrintWords Go.Proofs.YtkmjmgkpcomldaaW.PrintLast
set_option linter.unusedVariables false
set_option linter.unusedSimpArgs false
theorem scan_loop (l : List S35) (a b : ByteArray) (hl : l.length ≤ 1000000) : ∀ (d i : Nat), i + d = l.length → Ev (fun k => spec_Scan.l0 k l a b (keptE (goneE a b) l i) (i : Int)) (l.filter (fun x => !goneE a b x), 0) := by
  intro d
  induction d with
  | zero =>
    intro i hi
    obtain rfl : i = l.length := by omega
    refine Ev.at_ (c := 1) (fun k => ?_)
    simp only [spec_Scan.l0]
    rw [if_neg (by omega), keptE_all]
  | succ d ih =>
    intro i hi
    have hil : i < l.length := by omega
    have c1 : (i : Int) < (l.length : Int) := by omega
    have e1 : rd_T35 l (i : Int) = l[i] := rdEntry hil
    have hn := ih (i + 1) (by omega)
    have hlt : (keptE (goneE a b) l i).length < 5864062014805 := by
      have := keptE_len (goneE a b) l i
      omega
    have w := wrap_i (show i < 4611686018427387904 by omega)
    rw [keptE_next _ l i hil] at hn
    refine Ev.succ ?_
    simp only [spec_Scan.l0, c1, if_true, Int.natCast_nonneg, e1, w]
    cases h1 : Op.bytesLess l[i].f0.toList a.toList with
    | true =>
      have hg : goneE a b l[i] = true := by unfold goneE sblt; rw [h1]; rfl
      rw [if_pos hg, List.append_nil] at hn
      simp only [if_true]
      exact hn
    | false =>
      simp only [Bool.false_eq_true, if_false]
      by_cases h2 : b.toList = ([] : List UInt8)
      · have hg : goneE a b l[i] = false := by unfold goneE sblt; rw [h1, h2]; rfl
        rw [if_neg (by rw [hg]; simp)] at hn
        simp only [h2, if_true, hlt]
        exact hn
      · have h3 : (b.toList == ([] : List UInt8)) = false := beq_eq_false_iff_ne.mpr h2
        simp only [h2, if_false]
        cases h4 : Op.bytesLess l[i].f0.toList b.toList with
        | true =>
          have hg : goneE a b l[i] = false := by unfold goneE sblt; rw [h1, h3, h4]; rfl
          rw [if_neg (by rw [hg]; simp)] at hn
          simp only [if_true, hlt]
          exact hn
        | false =>
          have hg : goneE a b l[i] = true := by unfold goneE sblt; rw [h1, h3, h4]; rfl
          rw [if_pos hg, List.append_nil] at hn
          simp only [Bool.false_eq_true, if_false]
          exact hn
end Go.Proofs.Ytkmjmgkpcomldaa.Q
end

section
namespace Go.Proofs.Ytkmjmgkpcomldaa.Pure
open Go.RowKit Go.Proofs.Ytkmjmgkpcomldaa.Q Go.Proofs.YtkmjmgkpcomldaaW.PrintWords Go.Proofs.YtkmjmgkpcomldaaW.PrintLast Go.Proofs.YtkmjmgkpcomldaaW.PrintMore
set_option linter.unusedVariables false
set_option linter.unusedSimpArgs false
theorem same_self {m : List S35} (hm : mapB m = true) : Ev (fun k => impl_SameMap.f k m m) true := by
  have hl := mapB_len hm
  obtain ⟨r, h1, h2⟩ := equalMap_ev m m (by omega)
  obtain rfl : r = true := h2.mpr rfl
  unfold impl_SameMap.f
  refine Ev.bind (mapOK_ev m (by omega)) ?_
  rw [hm]
  simp only [if_true]
  exact Ev.bind h1 (Ev.now _)
theorem sblt_is0 (a b : ByteArray) : Op.bytesLess a.toList b.toList = sblt a b := rfl
theorem scan_val {l : List S35} (hm : mapB l = true) {a b : ByteArray} (ha : a.size ≤ 65536) (hb : b.size ≤ 65536) :
    Ev (fun k => spec_Scan.f k l a b) (l.filter (fun x => !goneE a b x), 0) ∧ Ev (fun k => impl_Scan.f k l a b) (l.filter (fun x => !goneE a b x), 0) := by
  have h12 := mapB_len hm
  have g1 : ¬ (l.length : Int) > 4096 := by omega
  have g2 : ¬ (a.size : Int) > 65536 := by omega
  have g3 : ¬ (b.size : Int) > 65536 := by omega
  have f1 : (l.length : Int) ≤ 4096 := by omega
  have f2 : (a.size : Int) ≤ 65536 := by omega
  have f3 : (b.size : Int) ≤ 65536 := by omega
  have hS : ∀ r, Ev (fun k => spec_Scan.j0 k l a b false) r → Ev (fun k => spec_Scan.f k l a b) r := fun r h => Ev.congr (fun k => by unfold spec_Scan.f; simp only [g1, g2, g3, if_false, decide_false]) h
  have hI : ∀ r, Ev (fun k => impl_Scan.j0 k l a b false) r → Ev (fun k => impl_Scan.f k l a b) r := fun r h => Ev.congr (fun k => by unfold impl_Scan.f impl_Entry_52.f impl_isText.f; simp only [Option.bind_some, f1, f2, f3, decide_true, if_true, Bool.not_true]) h
  have hlo := scan_loop l a b (by omega) l.length 0 (by omega)
  have e0 : keptE (goneE a b) l 0 = [] := rfl
  rw [e0] at hlo
  refine ⟨hS _ (Ev.succ ?_), hI _ (Ev.succ ?_)⟩
  · simp only [spec_Scan.j0, Bool.false_eq_true, if_false, spec_l01OK.f, Option.bind_some, hm, if_true]
    exact hlo
  · simp only [impl_Scan.j0, Bool.false_eq_true, if_false]
    refine Ev.bind (mapOK_ev l (by omega)) ?_
    simp only [hm, if_true, impl_scan.f, (show l.length ≤ 2000000 by omega), Option.bind_some]
    exact Ev.now _
theorem isValue_is (v : Int) : impl_isValue.f v = some (inB v (-1000000) 1000000) := by
  unfold impl_isValue.f impl_within.f inB
  by_cases h : -1000000 ≤ v <;> simp [h]
theorem small {l : List S35} {n : ByteArray} (hm : mapB l = true) (hn : nameB n = true) : ¬ mapBig l n := by
  have h12 := mapB_len hm
  unfold nameB at hn
  simp only [Bool.and_eq_true, decide_eq_true_eq] at hn
  obtain ⟨⟨⟨_, h⟩, _⟩, _⟩ := hn
  unfold mapBig
  omega
theorem get_has {l : List S35} (hm : mapB l = true) {x : S35} (hx : x ∈ l) (hn : nameB x.f0 = true) : Ev (fun k => impl_Get.f k l x.f0) (x.f1, 0) := by
  obtain ⟨j, hj, rfl⟩ := List.getElem_of_mem hx
  have hri := mapB_rise hm
  have h12 := mapB_len hm
  have hb := small hm hn
  obtain ⟨c, f⟩ := find_some hri hj rfl
  unfold impl_Get.f
  refine Ev.bind (keyCode_small hb) ?_
  have c1 : (j : Int) < (l.length : Int) := by omega
  simp only [hm, hn, Bool.and_self, if_true, find_f (k := l[j].f0) hri (show l.length ≤ 1048576 by omega), f, c, Option.bind_some, Int.natCast_nonneg, c1, rdEntry hj]
  exact Ev.now _
theorem get_none {l : List S35} (hm : mapB l = true) {n : ByteArray} (hn : nameB n = true) (hno : ∀ x, x ∈ l → x.f0 ≠ n) : Ev (fun k => impl_Get.f k l n) (0, 5) := by
  have hri := mapB_rise hm
  have h12 := mapB_len hm
  have hb := small hm hn
  have f : fndB (cmpK n) l = false := find_none (fun i hi => hno _ (List.getElem_mem hi))
  unfold impl_Get.f
  refine Ev.bind (keyCode_small hb) ?_
  simp only [hm, hn, Bool.and_self, if_true, find_f (k := n) hri (show l.length ≤ 1048576 by omega), f, Option.bind_some, Bool.false_eq_true, if_false]
  exact Ev.now _
theorem put_val {l : List S35} (hm : mapB l = true) {n : ByteArray} (hn : nameB n = true) {v : Int} (hv : inB v (-1000000) 1000000 = true) (h13 : (putL l n v).length ≤ 12) :
    Ev (fun k => spec_Put.f k l n v) (putL l n v, 0) ∧ Ev (fun k => impl_Put.f k l n v) (putL l n v, 0) := by
  have hb := small hm hn
  have h1 : ¬ (l.length : Int) > 4096 := by unfold mapBig at hb; omega
  have h2 : ¬ (n.size : Int) > 65536 := by unfold mapBig at hb; omega
  have hs : ∀ r, Ev (fun k => spec_Put.j0 k l n v false) r → Ev (fun k => spec_Put.f k l n v) r := fun r h => Ev.congr (fun k => by unfold spec_Put.f; simp only [h1, h2, if_false, decide_false]) h
  have hr : (mapB l && nameB n) = true := by rw [hm, hn]; rfl
  have hri := mapB_rise hm
  have h12 := mapB_len hm
  have hS := l01Put_ev hri n v (show l.length ≤ 1000000 by omega)
  have hI := edited_ev [(⟨n, v, false⟩ : S66)] hri (by rw [List.length_singleton]; omega)
  have he : [(⟨n, v, false⟩ : S66)].foldl edit1 l = putL l n v := by
    rw [List.foldl_cons, List.foldl_nil]
    unfold edit1
    rw [if_neg (by simp)]
  rw [he] at hI
  have h13 : ¬ ((putL l n v).length : Int) > 12 := by omega
  refine ⟨hs _ (Ev.succ ?_), ?_⟩
  · simp only [spec_Put.j0, Bool.false_eq_true, if_false]
    refine Ev.bind (l01Ask_small hb) ?_
    simp only [hr, if_true, l01In_is, Option.bind_some, hv]
    refine Ev.bind hS ?_
    simp only [h13, if_false]
    exact Ev.now _
  · unfold impl_Put.f
    refine Ev.bind (keyCode_small hb) ?_
    simp only [hr, if_true, isValue_is, Option.bind_some, hv]
    refine Ev.bind hI ?_
    simp only [impl_limited.f, h13, if_false, Option.bind_some]
    exact Ev.now _
theorem rem_val {l : List S35} (hm : mapB l = true) {n : ByteArray} (hn : nameB n = true) (hx : ∃ x, x ∈ l ∧ x.f0 = n) :
    Ev (fun k => spec_Remove.f k l n) (remL l n, 0) ∧ Ev (fun k => impl_Remove.f k l n) (remL l n, 0) := by
  have hb := small hm hn
  have h1 : ¬ (l.length : Int) > 4096 := by unfold mapBig at hb; omega
  have h2 : ¬ (n.size : Int) > 65536 := by unfold mapBig at hb; omega
  have hs : ∀ r, Ev (fun k => spec_Remove.j0 k l n false) r → Ev (fun k => spec_Remove.f k l n) r := fun r h => Ev.congr (fun k => by unfold spec_Remove.f; simp only [h1, h2, if_false, decide_false]) h
  have hr : (mapB l && nameB n) = true := by rw [hm, hn]; rfl
  have hri := mapB_rise hm
  have h12 := mapB_len hm
  have hl : l.length ≤ 1048576 := by omega
  rcases key_cases hri hl n with ⟨_, _, hno⟩ | ⟨i, hi, hx, hf, _⟩
  · obtain ⟨x, hx, hk⟩ := hx
    obtain ⟨j, hj, rfl⟩ := List.getElem_of_mem hx
    exact absurd hk (hno j hj)
  · have n1 : ¬ (i : Int) < 0 := by omega
    have hS := l01Remove_ev hri n (show l.length ≤ 1000000 by omega)
    have hI := edited_ev [(⟨n, 0, true⟩ : S66)] hri (by rw [List.length_singleton]; omega)
    have he : [(⟨n, 0, true⟩ : S66)].foldl edit1 l = remL l n := by
      rw [List.foldl_cons, List.foldl_nil]
      unfold edit1
      rw [if_pos rfl]
    rw [he] at hI
    refine ⟨hs _ (Ev.succ ?_), ?_⟩
    · simp only [spec_Remove.j0, Bool.false_eq_true, if_false]
      refine Ev.bind (l01Ask_small hb) ?_
      simp only [hr, if_true]
      refine Ev.bind (hx ▸ l01At_ev l n hl) ?_
      simp only [n1, if_false]
      exact Ev.bind hS (Ev.now _)
    · unfold impl_Remove.f
      refine Ev.bind (keyCode_small hb) ?_
      simp only [hr, if_true, hf, Option.bind_some]
      exact Ev.bind hI (Ev.now _)
theorem keepers {l : List S35} (h : RiseP l) {k : ByteArray} {x : S35} (hx : x ∈ l) (hk : x.f0 ≠ k) : x ∈ l.take (cntN (cmpK k) l) ∨ x ∈ l.drop (behK k l) := by
  obtain ⟨j, hj, rfl⟩ := List.getElem_of_mem hx
  by_cases h1 : j < cntN (cmpK k) l
  · refine .inl (List.mem_take_iff_getElem.mpr ⟨j, by omega, rfl⟩)
  · have hb : behK k l ≤ j := by
      cases hf : fndB (cmpK k) l with
      | true =>
        obtain ⟨hc, he⟩ := (fnd_at h k).mp hf
        rw [behK_found hf]
        have hne : j ≠ cntN (cmpK k) l := by
          rintro rfl
          exact hk he
        omega
      | false =>
        rw [behK_new hf]
        omega
    refine .inr (List.mem_drop_iff_getElem.mpr ⟨j - behK k l, by omega, ?_⟩)
    congr 1
    omega
theorem put_keep {l : List S35} (h : RiseP l) {k : ByteArray} (v : Int) {x : S35} (hx : x ∈ l) (hk : x.f0 ≠ k) : x ∈ putL l k v := by
  unfold putL
  rcases keepers h hx hk with h1 | h1
  · exact List.mem_append_left _ h1
  · exact List.mem_append_right _ (List.mem_cons_of_mem _ h1)
theorem rem_keep {l : List S35} (h : RiseP l) {k : ByteArray} {x : S35} (hx : x ∈ l) (hk : x.f0 ≠ k) : x ∈ remL l k := by
  unfold remL
  rcases keepers h hx hk with h1 | h1
  · exact List.mem_append_left _ h1
  · exact List.mem_append_right _ h1
theorem rem_gone {l : List S35} (h : RiseP l) {k : ByteArray} {x : S35} (hx : x ∈ remL l k) : x.f0 ≠ k := by
  unfold remL at hx
  rcases List.mem_append.mp hx with h1 | h1
  · obtain ⟨j, hj, rfl⟩ := List.mem_take_iff_getElem.mp h1
    exact sblt_ne ((cnt_at h k j (by omega)).mp (by omega))
  · obtain ⟨j, hj, rfl⟩ := List.mem_drop_iff_getElem.mp h1
    exact (sblt_ne (beh_at h k _ (by omega) (by omega))).symm
theorem goodM_rem {n : Nat} {m : List S35} (h : goodM n m) (k : ByteArray) : goodM n (remL m k) := by
  obtain ⟨hr, hl, hx⟩ := h
  refine ⟨remL_rise hr k, by have := remL_len m k; omega, fun x hx2 => ?_⟩
  unfold remL at hx2
  rcases List.mem_append.mp hx2 with hx2 | hx2
  · exact hx x (List.mem_of_mem_take hx2)
  · exact hx x (List.mem_of_mem_drop hx2)
theorem goodM_filter {n : Nat} {m : List S35} (h : goodM n m) (p : S35 → Bool) : goodM n (m.filter p) := by
  obtain ⟨hr, hl, hx⟩ := h
  refine ⟨?_, by have := List.length_filter_le p m; omega, fun x hx2 => hx x (List.mem_filter.mp hx2).1⟩
  unfold RiseP at hr ⊢
  exact hr.filter _
theorem key_drawn {l : List Int} (hl : bytesOK l) (hlen : l.length ≤ 1048576) : ∃ t, spec_KeyDrawn.f l = some t ∧ nameB t = true := by
  have hs : seedOK 0 ((l.length : Int) % 1000) := ⟨by omega, by omega, by omega, by omega⟩
  obtain ⟨t, a', s', e, hn, _⟩ := key_ev hl hs
  refine ⟨t, ?_, hn⟩
  unfold spec_KeyDrawn.f spec_l00Source.f
  simp only [Option.bind_some, e]
theorem at_ev {l : List Int} (hl : bytesOK l) {a n : Int} (h0 : 0 ≤ a) (h1 : a ≤ 1000) (hn : 2 ≤ n) (hn2 : n ≤ 1000) : ∃ v, laws_at.f l a n = some v ∧ 0 ≤ v ∧ v < n := by
  have n1 : ¬ n ≤ 1 := by omega
  have n2 : ¬ n = 0 := by omega
  unfold laws_at.f
  by_cases hz : (l.length : Int) = 0
  · have e : wrap64 (a * 7) = a * 7 := wid (by omega) (by omega)
    refine ⟨_, by simp only [n1, hz, n2, if_true, if_false]; rfl, ?_⟩
    rw [e]
    exact tmod_in (by omega) (by omega)
  · have hp : 0 < (l.length : Int) := by omega
    obtain ⟨p1, p2⟩ := tmod_in h0 hp
    have e1 : wrap64 (a + 1) = a + 1 := wid (by omega) (by omega)
    obtain ⟨q1, q2⟩ := tmod_in (x := a + 1) (by omega) hp
    obtain ⟨r1, r2⟩ := rd_in hl p1 p2
    obtain ⟨s1, s2⟩ := rd_in hl q1 q2
    have d1 : 0 ≤ Int.tdiv a (l.length : Int) := Int.tdiv_nonneg h0 (by omega)
    have d2 : Int.tdiv a (l.length : Int) ≤ a := Int.tdiv_le_self _ h0
    refine ⟨_, by simp only [n1, hz, n2, e1, p1, p2, q1, q2, if_true, if_false]; rfl, ?_⟩
    generalize rd l (Int.tmod a (l.length : Int)) = x at r1 r2 ⊢
    generalize rd l (Int.tmod (a + 1) (l.length : Int)) = y at s1 s2 ⊢
    generalize Int.tdiv a (l.length : Int) = z at d1 d2 ⊢
    have w1 : wrap64 x = x := wid (by omega) (by omega)
    have w2 : wrap64 y = y := wid (by omega) (by omega)
    have w3 : wrap64 z = z := wid (by omega) (by omega)
    have w4 : wrap64 (x * 31) = x * 31 := wid (by omega) (by omega)
    have w5 : wrap64 (x * 31 + y) = x * 31 + y := wid (by omega) (by omega)
    have w6 : wrap64 (x * 31 + y + z) = x * 31 + y + z := wid (by omega) (by omega)
    rw [w1, w2, w3, w4, w5, w6]
    exact tmod_in (by omega) (by omega)
theorem maps_l1 {m : List S35} (gm : goodM 5 m) (a b : ByteArray) : ∀ (d i : Nat), i + d = m.length →
    Ev (fun k => laws_FnMaps.l1 k m a b (m.filter (fun x => !goneE a b x)) 0 (m.filter (fun x => !goneE a b x)) (((m.take i).filter (fun x => !goneE a b x)).length : Int) (i : Int)) true := by
  have hlen := gm.2.1
  intro d
  induction d with
  | zero =>
    intro i hi
    obtain rfl : i = m.length := by omega
    refine Ev.succ ?_
    have c : ¬ ((m.length : Nat) : Int) < (m.length : Int) := by omega
    simp only [laws_FnMaps.l1, c, if_false, if_true, List.take_length]
    refine Ev.bind (same_self (goodM_map (goodM_filter gm _) (by omega))) ?_
    simp only [if_true, beq_self_eq_true]
    exact Ev.now _
  | succ d ih =>
    intro i hi
    have hi2 : i < m.length := by omega
    have c : (i : Int) < (m.length : Int) := by omega
    have h := ih (i + 1) (by omega)
    rw [take_next hi2, List.filter_append] at h
    have w1 : wrap64 ((i : Int) + 1) = ((i + 1 : Nat) : Int) := wrap_i (by omega)
    have hfl : ((m.take i).filter (fun x => !goneE a b x)).length ≤ m.length := Nat.le_trans (List.length_filter_le _ _) (by rw [List.length_take]; omega)
    have w2 : wrap64 ((((m.take i).filter (fun x => !goneE a b x)).length : Int) + 1) = ((((m.take i).filter (fun x => !goneE a b x)).length + 1 : Nat) : Int) := wrap_i (by omega)
    refine Ev.succ ?_
    simp only [laws_FnMaps.l1, c, if_true, Int.natCast_nonneg, rdEntry hi2, w1, w2, sblt_is0]
    have hg : goneE a b m[i] = (sblt m[i].f0 a || (!(b.toList == []) && !(sblt m[i].f0 b))) := rfl
    cases h1 : sblt m[i].f0 a with
    | true =>
      have hg2 : goneE a b m[i] = true := by rw [hg, h1]; rfl
      simp only [List.filter_cons, hg2, Bool.not_true, Bool.false_eq_true, if_false, List.filter_nil, List.append_nil] at h
      simp only [if_true]
      exact h
    | false =>
      simp only [Bool.false_eq_true, if_false]
      by_cases h2 : b.toList = []
      · have hg2 : goneE a b m[i] = false := by rw [hg, h1, h2]; rfl
        simp only [List.filter_cons, hg2, Bool.not_false, if_true, List.filter_nil, List.length_append, List.length_cons, List.length_nil, Nat.zero_add] at h
        simp only [h2, if_true]
        exact h
      · simp only [h2, if_false]
        have h3 : (b.toList == []) = false := beq_eq_false_iff_ne.mpr h2
        cases h4 : sblt m[i].f0 b with
        | true =>
          have hg2 : goneE a b m[i] = false := by rw [hg, h1, h3, h4]; rfl
          simp only [List.filter_cons, hg2, Bool.not_false, if_true, List.filter_nil, List.length_append, List.length_cons, List.length_nil, Nat.zero_add] at h
          simp only [if_true]
          exact h
        | false =>
          have hg2 : goneE a b m[i] = true := by rw [hg, h1, h3, h4]; rfl
          simp only [List.filter_cons, hg2, Bool.not_true, Bool.false_eq_true, if_false, List.filter_nil, List.append_nil] at h
          simp only [Bool.false_eq_true, if_false]
          exact h
theorem maps_l0 {m p r : List S35} {kk : ByteArray} {l1 : List Int} (gm : goodM 5 m) (mp : mapB p = true) (mr : mapB r = true)
    (hp : ∀ x, x ∈ m → x.f0 ≠ kk → x ∈ p) (hr : ∀ x, x ∈ m → x.f0 ≠ kk → x ∈ r) (hT : Ev (fun k => laws_FnMaps.l0 k l1 m kk p r (m.length : Int)) true) :
    ∀ (d i : Nat), i + d = m.length → Ev (fun k => laws_FnMaps.l0 k l1 m kk p r (i : Int)) true := by
  have hlen := gm.2.1
  intro d
  induction d with
  | zero =>
    intro i hi
    obtain rfl : i = m.length := by omega
    exact hT
  | succ d ih =>
    intro i hi
    have hi2 : i < m.length := by omega
    have c : (i : Int) < (m.length : Int) := by omega
    have h := ih (i + 1) (by omega)
    have w1 : wrap64 ((i : Int) + 1) = ((i + 1 : Nat) : Int) := wrap_i (by omega)
    refine Ev.succ ?_
    simp only [laws_FnMaps.l0, c, if_true, Int.natCast_nonneg, rdEntry hi2, w1]
    by_cases hk : m[i].f0.toList = kk.toList
    · simp only [hk, if_true]
      exact h
    · simp only [hk, if_false]
      have hk2 : m[i].f0 ≠ kk := fun e => hk (by rw [e])
      have hm := List.getElem_mem hi2
      have hn := (gm.2.2 _ hm).1
      refine Ev.bind (get_has mp (hp _ hm hk2) hn) (Ev.bind (get_has mr (hr _ hm hk2) hn) ?_)
      simp only [if_true]
      exact h
theorem maps_tail {m p r : List S35} {kk : ByteArray} {l1 : List Int} (hl : bytesOK l1) (gm : goodM 5 m) : Ev (fun k => laws_FnMaps.l0 k l1 m kk p r (m.length : Int)) true := by
  have mm := goodM_map gm (by omega)
  have hlen := gm.2.1
  obtain ⟨t, et, t1, t2⟩ := at_ev hl (a := 1) (n := 3) (by omega) (by omega) (by omega) (by omega)
  obtain ⟨u, eu, u1, u2⟩ := at_ev hl (a := 2) (n := 3) (by omega) (by omega) (by omega) (by omega)
  refine Ev.succ ?_
  have c : ¬ ((m.length : Nat) : Int) < (m.length : Int) := by omega
  have ct : t < ((3 : Nat) : Int) := by omega
  have cu : u < ((3 : Nat) : Int) := by omega
  simp only [laws_FnMaps.l0, c, if_false, Option.bind_some, et, eu, t1, u1, if_true, List.length_cons, List.length_nil, Nat.zero_add, Nat.reduceAdd, ct, cu]
  have ha : (rdOf ByteArray.empty [(⟨#[]⟩ : ByteArray), (⟨#[98]⟩ : ByteArray), (⟨#[107]⟩ : ByteArray)] t).size ≤ 65536 := by
    rcases (by omega : t = 0 ∨ t = 1 ∨ t = 2) with rfl | rfl | rfl <;> decide
  have hb : (rdOf ByteArray.empty [(⟨#[]⟩ : ByteArray), (⟨#[99]⟩ : ByteArray), (⟨#[107, 50]⟩ : ByteArray)] u).size ≤ 65536 := by
    rcases (by omega : u = 0 ∨ u = 1 ∨ u = 2) with rfl | rfl | rfl <;> decide
  generalize rdOf ByteArray.empty _ t = a at ha ⊢
  generalize rdOf ByteArray.empty _ u = b at hb ⊢
  obtain ⟨s1, i1⟩ := scan_val mm ha hb
  refine Ev.bind i1 (Ev.bind s1 ?_)
  exact maps_l1 gm a b m.length 0 (by omega)
theorem FnMaps : laws_FnMaps.Pure := by
  intro l0 l1 _ _ w0 _ _ w1
  refine Ev.rounds ?_
  unfold laws_FnMaps.f
  by_cases c0 : (l0.length : Int) > 1048576
  · simp only [c0, if_true]
    exact Ev.at_ (c := 1) (fun k => by simp only [laws_FnMaps.j0, if_true])
  simp only [c0, if_false]
  by_cases c1 : (l1.length : Int) > 1048576
  · simp only [c1, decide_true]
    exact Ev.at_ (c := 1) (fun k => by simp only [laws_FnMaps.j0, if_true])
  simp only [c1, decide_false]
  have hl1 := bytes_wf w1
  obtain ⟨m, em, gm⟩ := drawn_ev l0 (bytes_wf w0) (by omega)
  obtain ⟨kk, ek, nk⟩ := key_drawn hl1 (by omega)
  obtain ⟨v, ev, v1, v2⟩ := at_ev hl1 (a := 0) (n := 1000) (by omega) (by omega) (by omega) (by omega)
  have mm := goodM_map gm (by omega)
  have gp := goodM_put gm nk v1 (by omega : v ≤ 1000)
  have mp := goodM_map gp (by omega)
  have gr := goodM_rem gp kk
  have mr := goodM_map gr (by omega)
  have hv : inB v (-1000000) 1000000 = true := by
    unfold inB
    rw [decide_eq_true (by omega), decide_eq_true (by omega)]
    rfl
  obtain ⟨sp, ip⟩ := put_val mm nk hv (mapB_len mp)
  have hin : (⟨kk, v⟩ : S35) ∈ putL m kk v := by
    unfold putL
    simp
  obtain ⟨sr, ir⟩ := rem_val mp nk ⟨_, hin, rfl⟩
  have g1 := get_has mp hin nk
  have g2 := get_none mr nk (fun x hx => rem_gone (mapB_rise mp) hx)
  have hL := maps_l0 (kk := kk) gm mp mr (fun x hx hk => put_keep gm.1 v hx hk) (fun x hx hk => rem_keep gp.1 (put_keep gm.1 v hx hk) hk) (maps_tail hl1 gm) m.length 0 (by omega)
  refine Ev.succ ?_
  simp only [laws_FnMaps.j0, Bool.false_eq_true, if_false, ek, ev, Option.bind_some]
  refine Ev.bind em (Ev.bind ip (Ev.bind sp (Ev.bind g1 (Ev.bind ir (Ev.bind sr (Ev.bind g2 ?_))))))
  simp only [if_true]
  refine Ev.bind (same_self mp) ?_
  simp only [if_true]
  refine Ev.bind (same_self mr) ?_
  simp only [if_true]
  refine Ev.bind (mapOK_ev m (by have := gm.2.1; omega)) ?_
  simp only [mm, Bool.not_true]
  refine Ev.succ ?_
  simp only [laws_FnMaps.j1, Bool.false_eq_true, if_false]
  exact hL
end Go.Proofs.Ytkmjmgkpcomldaa.Pure
end
