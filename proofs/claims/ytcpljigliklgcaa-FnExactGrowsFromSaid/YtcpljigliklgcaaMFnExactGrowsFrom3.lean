/- Parts of the proof of the law FnExactGrowsFrom, joined into one text. -/
import Derived.Test.YtcpljigliklgcaaMFnExactGrowsFrom2
section
namespace Go.Proofs.Ytcpljigliklgcaa.Q
open Go.RowKit Go.Proofs.YtcpljigliklgcaaW.PrintWords Go.Proofs.YtcpljigliklgcaaW.PrintLast Go.Proofs.YtcpljigliklgcaaW.PrintMore
attribute [local go_sem] max2_int min2_int max_two min_two max_three min_three max_four min_four   -- for this text's walks alone
set_option linter.unusedVariables false
set_option linter.unusedSimpArgs false
attribute [local go_sem] bin_leq bin_gtr bin_geq
mutual
def spec_l00Word.j0 : Nat → ByteArray → Bool → Option (Bool)
 | 0, _, _ => none
 | k + 1, x0, x17 => if x17 = true then (some false) else (spec_l00Word.l0 k x0 1)
def spec_l00Word.l0 : Nat → ByteArray → Int → Option (Bool)
 | 0, _, _ => none
 | k + 1, x0, x3 => if x3 < (x0.size : Int) then (if 0 ≤ x3 then ((spec_l00Letter.f (bt x0 x3)).bind fun t105 => (if t105 = true then (spec_l00Word.l0 k x0 (wrap64 (x3 + 1))) else ((spec_l00Digit.f (bt x0 x3)).bind fun t106 => (if t106 = true then (spec_l00Word.l0 k x0 (wrap64 (x3 + 1))) else (some false))))) else (none)) else (some true)
end
def spec_l00Word.f (k : Nat) (a0 : ByteArray) : Option (Bool) := if (a0.size : Int) < 1 then (spec_l00Word.j0 k a0 true) else (if (a0.size : Int) > 12 then (spec_l00Word.j0 k a0 true) else (if 0 < (a0.size : Int) then ((spec_l00Letter.f (bt a0 0)).bind fun t104 => (spec_l00Word.j0 k a0 (!t104))) else (none)))
theorem spec_l00Word.mono_l : ∀ k, (∀ y0 y1, LeO (spec_l00Word.j0 k y0 y1) (spec_l00Word.j0 (k + 1) y0 y1)) ∧ (∀ y0 y1, LeO (spec_l00Word.l0 k y0 y1) (spec_l00Word.l0 (k + 1) y0 y1))
 | 0 => ⟨fun _ _ r h => by simp [spec_l00Word.j0] at h, fun _ _ r h => by simp [spec_l00Word.l0] at h⟩
 | k + 1 => by
  obtain ⟨ih0, ih1⟩ := spec_l00Word.mono_l k
  refine ⟨?_, ?_⟩
  ·intro y0 y1
   unfold spec_l00Word.j0
   repeat' first
   | (with_reducible exact ih0 _ _)
   | (with_reducible exact ih1 _ _)
   | (with_reducible exact LeO.refl _)
   | (with_reducible exact LeO.none _)
   | (with_reducible refine LeO.ite ?_ ?_)
   | (with_reducible refine LeO.bind ?_ (fun _ => ?_))
   | exact ih0 _ _
   | exact ih1 _ _
   | exact LeO.none _
   | refine LeO.ite ?_ ?_
   | refine LeO.bind ?_ (fun _ => ?_)
  ·intro y0 y1
   unfold spec_l00Word.l0
   repeat' first
   | (with_reducible exact ih0 _ _)
   | (with_reducible exact ih1 _ _)
   | (with_reducible exact LeO.refl _)
   | (with_reducible exact LeO.none _)
   | (with_reducible refine LeO.ite ?_ ?_)
   | (with_reducible refine LeO.bind ?_ (fun _ => ?_))
   | exact ih0 _ _
   | exact ih1 _ _
   | exact LeO.none _
   | refine LeO.ite ?_ ?_
   | refine LeO.bind ?_ (fun _ => ?_)
theorem spec_l00Word.mono : ∀ a0 k, LeO (spec_l00Word.f k a0) (spec_l00Word.f (k + 1) a0) := by
 intro a0 k
 obtain ⟨ih0, ih1⟩ := spec_l00Word.mono_l k
 unfold spec_l00Word.f
 repeat' first
   | (with_reducible exact ih0 _ _)
   | (with_reducible exact ih1 _ _)
   | (with_reducible exact LeO.refl _)
   | (with_reducible exact LeO.none _)
   | (with_reducible refine LeO.ite ?_ ?_)
   | (with_reducible refine LeO.bind ?_ (fun _ => ?_))
   | exact ih0 _ _
   | exact ih1 _ _
   | exact LeO.none _
   | refine LeO.ite ?_ ?_
   | refine LeO.bind ?_ (fun _ => ?_)
set_option maxHeartbeats 8000000 in
set_option maxRecDepth 100000 in
theorem spec_l00Word.calls (k : Nat) (a0 : ByteArray) (r : Bool) (w : World) (h : spec_l00Word.f k a0 = some r) :
  Calls Try.prog 152 #[.string a0] w fun e w' => e = .returned (.bool r) ∧ Drawn0 w w' := by
 have H : (if (a0.size : Int) < 1 then (spec_l00Word.j0 k a0 true) else (if (a0.size : Int) > 12 then (spec_l00Word.j0 k a0 true) else (if 0 < (a0.size : Int) then ((spec_l00Letter.f (bt a0 0)).bind fun t104 => (spec_l00Word.j0 k a0 (!t104))) else (none)))) = some r := h
 clear h
 have HC2 := Aside0.mk H
 clear H
 go_enter Try.func152, Try.ntmps152
 go_upto_region 1 with (fail)
 go_cut [17] (fun v17 wc => ∃ (kq : Nat) (x17_1 : Bool), v17 = .bool x17_1 ∧ Aside0 (spec_l00Word.j0 kq a0 x17_1 = some r) ∧ Aside0 (kq ≤ k) ∧ Drawn0 w wc)
 case first =>
  have H := HC2.out
  clear HC2
  by_cases c3 : (a0.size : Int) < 1
  ·rw [if_pos c3] at H
   have c3b0 : decide ((a0.size : Int) < 1) = true := decide_eq_true c3
   have c3b1 : decide (a0.size < 1) = true := decide_eq_true (by omega)
   clear c3
   (first | rw [c3b0] | (simp only [i64_w, i32_w]; rw [c3b0]) | skip)
   have H' := Aside0.mk H
   clear H
   go_wp2
   go_meet
   case rel => exact ⟨_, (true), vE, H', ⟨by first | omega | exact Nat.le_refl _⟩, by repeat (first | exact Drawn0.refl _ | apply Drawn0.step)⟩
  ·rw [if_neg c3] at H
   have c3b0 : decide ((a0.size : Int) < 1) = false := decide_eq_false c3
   have c3b1 : decide (a0.size < 1) = false := decide_eq_false (by omega)
   clear c3
   (first | rw [c3b0] | (simp only [i64_w, i32_w]; rw [c3b0]) | skip)
   by_cases c4 : (a0.size : Int) > 12
   ·rw [if_pos c4] at H
    have c4b0 : decide (12 < (a0.size : Int)) = true := decide_eq_true c4
    have c4b1 : decide (12 < a0.size) = true := decide_eq_true (by omega)
    clear c4
    have H' := Aside0.mk H
    clear H
    go_wp2
    go_meet
    case rel => exact ⟨_, (true), vE, H', ⟨by first | omega | exact Nat.le_refl _⟩, by repeat (first | exact Drawn0.refl _ | apply Drawn0.step)⟩
   ·rw [if_neg c4] at H
    have c4b0 : decide (12 < (a0.size : Int)) = false := decide_eq_false c4
    have c4b1 : decide (12 < a0.size) = false := decide_eq_false (by omega)
    clear c4
    by_cases c5 : 0 < (a0.size : Int)
    ·rw [if_pos c5] at H
     have c5b0 : decide (0 < (a0.size : Int)) = true := decide_eq_true c5
     have c5b1 : decide (0 < a0.size) = true := decide_eq_true (by omega)
     clear c5
     replace H := Option.bind_eq_some_iff.mp H
     obtain ⟨t104, A70, H⟩ := H
     replace H : (spec_l00Word.j0 k a0 (!t104)) = some r := H
     have A7 := Aside0.mk A70
     clear A70
     have H' := Aside0.mk H
     clear H
     have p6 : 0 ≤ (0 : Int) := (by omega)
     have q6 : 0 < a0.size := (by have : (0 : Int) < (a0.size : Int) := odt; omega)
     have hx6 : ∀ h : 0 < a0.size, ((a0[0]'h).toNat : Int) = bt a0 0 := bt_at a0 0
     clear p6
     have qi6 : (0 < (a0.size : Int)) = True := eq_true (odt)
     replace q6 := eq_true q6
     go_wp2_with (first | (go_at_call 216; (with_reducible refine (spec_l00Letter.calls (bt a0 0) t104 _ A7.out).mono ?_); rintro e w' ⟨rfl, ⟨nd, rfl⟩⟩))
     go_meet
     case rel => exact ⟨_, (!t104), vE, H', ⟨by first | omega | exact Nat.le_refl _⟩, by repeat (first | exact Drawn0.refl _ | apply Drawn0.step)⟩
    ·rw [if_neg c5] at H
     exact absurd H (by simp)
 case rest =>
  clear HC2
  try clear c1
  try clear p2
  try clear c3
  try clear c3b0
  try clear c3b1
  try clear c4
  try clear c4b0
  try clear c4b1
  try clear c5
  try clear c5b0
  try clear c5b1
  try clear p6
  try clear q6
  try clear hx6
  try clear qi6
  try clear p6
  try clear q6
  obtain ⟨kq, x17_1, rfl, HA, HJ1, ⟨mc1, rfl⟩⟩ := hcut
  cases kq with
  | zero => exact absurd HA.out (by simp [spec_l00Word.j0])
  | succ kj1 =>
   have H := HA.out
   clear HA
   simp only [spec_l00Word.j0] at H
   by_cases c8 : x17_1 = true
   ·subst c8
    have H1 : (some false) = some r := by rw [if_pos rfl] at H; exact H
    clear H
    have H := H1
    clear H1
    obtain rfl := Option.some.inj H
    go_wp2
    go_ret
    exact ⟨by first | rfl | (simp; done) | (simp [*]; done), by repeat (first | exact Drawn0.refl _ | apply Drawn0.step)⟩
   ·replace c8 := Bool.eq_false_iff.mpr c8
    subst c8
    have H1 : (spec_l00Word.l0 kj1 a0 1) = some r := by rw [if_neg (show ¬ (false = true) by decide)] at H; exact H
    clear H
    have H := H1
    clear H1
    have H' := Aside0.mk H
    clear H
    go_wp2
    go_loopg [3] kj1 (fun kq v3 w' => ∃ (x3_2 : Int), v3 = .int .i64 x3_2 ∧ Aside0 (spec_l00Word.l0 kq a0 x3_2 = some r) ∧ Aside0 (kq ≤ kj1) ∧ Drawn0 w w')
    case atStart => exact ⟨(1), vE, H', ⟨Nat.le_refl _⟩, by repeat (first | exact Drawn0.refl _ | apply Drawn0.step)⟩
    case round =>
     clear H'
     try clear c1
     try clear p2
     try clear c3
     try clear c3b0
     try clear c3b1
     try clear c4
     try clear c4b0
     try clear c4b1
     try clear c5
     try clear c5b0
     try clear c5b1
     try clear p6
     try clear q6
     try clear hx6
     try clear qi6
     try clear c8
     try clear p2
     try clear p6
     try clear q6
     obtain ⟨x3_2, rfl, HA, HK2, ⟨m2, rfl⟩⟩ := hrel
     cases gk with
     | zero => exact absurd HA.out (by simp [spec_l00Word.l0])
     | succ k2 =>
      have H := HA.out
      clear HA
      simp only [spec_l00Word.l0] at H
      by_cases c9 : x3_2 < (a0.size : Int)
      ·rw [if_pos c9] at H
       have c9b0 : decide (x3_2 < (a0.size : Int)) = true := decide_eq_true c9
       clear c9
       by_cases c10 : 0 ≤ x3_2
       ·rw [if_pos c10] at H
        have c10b0 : decide (0 ≤ x3_2) = true := decide_eq_true c10
        clear c10
        replace H := Option.bind_eq_some_iff.mp H
        obtain ⟨t105, A120, H⟩ := H
        replace H : (if t105 = true then (spec_l00Word.l0 k2 a0 (wrap64 (x3_2 + 1))) else ((spec_l00Digit.f (bt a0 x3_2)).bind fun t106 => (if t106 = true then (spec_l00Word.l0 k2 a0 (wrap64 (x3_2 + 1))) else (some false)))) = some r := H
        have A12 := Aside0.mk A120
        clear A120
        by_cases c13 : t105 = true
        ·subst c13
         have H1 : (spec_l00Word.l0 k2 a0 (wrap64 (x3_2 + 1))) = some r := by rw [if_pos rfl] at H; exact H
         clear H
         have H := H1
         clear H1
         have H' := Aside0.mk H
         clear H
         have p11 : 0 ≤ (x3_2 : Int) := odt
         have q11 : x3_2 < (a0.size : Int) := odt
         have hx11 := bt_at a0 x3_2
         replace p11 := eq_true p11
         replace q11 := eq_true q11
         go_wp2_with (first | ((with_reducible refine gate_callee (f := 216) rfl ?_); refine goesL_ (some 27) rfl rfl Try.func216 (by kernel_rfl) rfl #[.int .u8 (bt a0 x3_2)] rfl gA ?_; (with_reducible refine (spec_l00Letter.calls (bt a0 x3_2) true _ A12.out).mono ?_); rintro e w' ⟨rfl, ⟨nd, rfl⟩⟩; refine ⟨_, rfl, ?_⟩))
         go_roundg k2
         case measure => have := HJ1.out; have := HK2.out; omega
         case rel => exact ⟨(wrap64 (x3_2 + 1)), vE, H', ⟨by have := HJ1.out; have := HK2.out; omega⟩, by repeat (first | exact Drawn0.refl _ | apply Drawn0.step)⟩
        ·replace c13 := Bool.eq_false_iff.mpr c13
         subst c13
         have H1 : ((spec_l00Digit.f (bt a0 x3_2)).bind fun t106 => (if t106 = true then (spec_l00Word.l0 k2 a0 (wrap64 (x3_2 + 1))) else (some false))) = some r := by rw [if_neg (show ¬ (false = true) by decide)] at H; exact H
         clear H
         have H := H1
         clear H1
         replace H := Option.bind_eq_some_iff.mp H
         obtain ⟨t106, A150, H⟩ := H
         replace H : (if t106 = true then (spec_l00Word.l0 k2 a0 (wrap64 (x3_2 + 1))) else (some false)) = some r := H
         have A15 := Aside0.mk A150
         clear A150
         by_cases c16 : t106 = true
         ·subst c16
          have H1 : (spec_l00Word.l0 k2 a0 (wrap64 (x3_2 + 1))) = some r := by rw [if_pos rfl] at H; exact H
          clear H
          have H := H1
          clear H1
          have H' := Aside0.mk H
          clear H
          have p11 : 0 ≤ (x3_2 : Int) := odt
          have q11 : x3_2 < (a0.size : Int) := odt
          have hx11 := bt_at a0 x3_2
          replace p11 := eq_true p11
          replace q11 := eq_true q11
          go_wp2_with (first | ((with_reducible refine gate_callee (f := 216) rfl ?_); refine goesL_ (some 27) rfl rfl Try.func216 (by kernel_rfl) rfl #[.int .u8 (bt a0 x3_2)] rfl gA ?_; (with_reducible refine (spec_l00Letter.calls (bt a0 x3_2) false _ A12.out).mono ?_); rintro e w' ⟨rfl, ⟨nd, rfl⟩⟩; refine ⟨_, rfl, ?_⟩; have p14 : 0 ≤ (x3_2 : Int) := odt; have q14 : x3_2 < (a0.size : Int) := odt; have hx14 := bt_at a0 x3_2; replace p14 := eq_true p14; replace q14 := eq_true q14) | (go_at_call 217; (with_reducible refine (spec_l00Digit.calls (bt a0 x3_2) true _ A15.out).mono ?_); rintro e w' ⟨rfl, ⟨nd, rfl⟩⟩))
          go_roundg k2
          case measure => have := HJ1.out; have := HK2.out; omega
          case rel => exact ⟨(wrap64 (x3_2 + 1)), vE, H', ⟨by have := HJ1.out; have := HK2.out; omega⟩, by repeat (first | exact Drawn0.refl _ | apply Drawn0.step)⟩
         ·replace c16 := Bool.eq_false_iff.mpr c16
          subst c16
          have H1 : (some false) = some r := by rw [if_neg (show ¬ (false = true) by decide)] at H; exact H
          clear H
          have H := H1
          clear H1
          obtain rfl := Option.some.inj H
          have p11 : 0 ≤ (x3_2 : Int) := odt
          have q11 : x3_2 < (a0.size : Int) := odt
          have hx11 := bt_at a0 x3_2
          replace p11 := eq_true p11
          replace q11 := eq_true q11
          go_wp2_with (first | ((with_reducible refine gate_callee (f := 216) rfl ?_); refine goesL_ (some 27) rfl rfl Try.func216 (by kernel_rfl) rfl #[.int .u8 (bt a0 x3_2)] rfl gA ?_; (with_reducible refine (spec_l00Letter.calls (bt a0 x3_2) false _ A12.out).mono ?_); rintro e w' ⟨rfl, ⟨nd, rfl⟩⟩; refine ⟨_, rfl, ?_⟩; have p14 : 0 ≤ (x3_2 : Int) := odt; have q14 : x3_2 < (a0.size : Int) := odt; have hx14 := bt_at a0 x3_2; replace p14 := eq_true p14; replace q14 := eq_true q14) | (go_at_call 217; (with_reducible refine (spec_l00Digit.calls (bt a0 x3_2) false _ A15.out).mono ?_); rintro e w' ⟨rfl, ⟨nd, rfl⟩⟩))
          go_ret
          exact ⟨by first | rfl | (simp; done) | (simp [*]; done), by repeat (first | exact Drawn0.refl _ | apply Drawn0.step)⟩
       ·rw [if_neg c10] at H
        exact absurd H (by simp)
      ·rw [if_neg c9] at H
       have c9b0 : decide (x3_2 < (a0.size : Int)) = false := decide_eq_false c9
       clear c9
       obtain rfl := Option.some.inj H
       go_wp2
       go_ret
       exact ⟨by first | rfl | (simp; done) | (simp [*]; done), by repeat (first | exact Drawn0.refl _ | apply Drawn0.step)⟩
end Go.Proofs.Ytcpljigliklgcaa.Q
end

section
namespace Go.Proofs.Ytcpljigliklgcaa.Q
open Go.RowKit Go.Proofs.YtcpljigliklgcaaW.PrintWords Go.Proofs.YtcpljigliklgcaaW.PrintLast Go.Proofs.YtcpljigliklgcaaW.PrintMore
attribute [local go_sem] max2_int min2_int max_two min_two max_three min_three max_four min_four   -- for this text's walks alone
set_option linter.unusedVariables false
set_option linter.unusedSimpArgs false
attribute [local go_sem] bin_leq bin_gtr bin_geq
def spec_l04At.l0 : Nat → List (S178) → ByteArray → Int → Option (Int)
  | 0, _, _, _ => none
  | k + 1, x0, x1, x5 => if x5 < (x0.length : Int) then (if 0 ≤ x5 then (if ((rd_T178 x0 x5).f0).toList = x1.toList then (some x5) else (spec_l04At.l0 k x0 x1 (wrap64 (x5 + 1)))) else (none)) else (some (-1))
def spec_l04At.f (k : Nat) (l0 : List (S178)) (a1 : ByteArray) : Option (Int) := spec_l04At.l0 k l0 a1 0
set_option maxHeartbeats 8000000 in
set_option maxRecDepth 100000 in
theorem spec_l04At.calls (k : Nat) (A0 : Option Addr) (c0 : Nat) (l0 : List (S178)) (a1 : ByteArray) (r : Int) (w : World) (hr0 : Kd.C k178 w A0 l0.length l0) (hc0 : l0.length ≤ c0) (h : spec_l04At.f k l0 a1 = some r) :
    Calls Try.prog 214 #[.slice A0 l0.length c0, .string a1] w fun e w' => e = .returned (.int .i64 r) ∧ Drawn0 w w' := by
  have HR0 := Aside0.mk hr0
  have HC0 := Aside0.mk hc0
  clear hr0 hc0
  have H : (spec_l04At.l0 k l0 a1 0) = some r := h
  clear h
  have H' := Aside0.mk H
  clear H
  go_enter Try.func214, Try.ntmps214
  go_wp2
  go_loopg [5] k (fun kq v5 w' => ∃ (x5_1 : Int), v5 = .int .i64 x5_1 ∧ Aside0 (spec_l04At.l0 kq l0 a1 x5_1 = some r) ∧ Aside0 (kq ≤ k) ∧ Drawn0 w w')
  case atStart => exact ⟨(0), vE, H', ⟨Nat.le_refl _⟩, by repeat (first | exact Drawn0.refl _ | apply Drawn0.step)⟩
  case round =>
    clear H'
    try clear c2
    try clear p2
    obtain ⟨x5_1, rfl, HA, HK1, ⟨m1, rfl⟩⟩ := hrel
    cases gk with
    | zero => exact absurd HA.out (by simp [spec_l04At.l0])
    | succ k1 =>
      have H := HA.out
      clear HA
      simp only [spec_l04At.l0] at H
      by_cases c3 : x5_1 < (l0.length : Int)
      · rw [if_pos c3] at H
        have c3b0 : decide (x5_1 < (l0.length : Int)) = true := decide_eq_true c3
        clear c3
        by_cases c4 : 0 ≤ x5_1
        · rw [if_pos c4] at H
          have c4b0 : decide (0 ≤ x5_1) = true := decide_eq_true c4
          clear c4
          by_cases c5 : ((rd_T178 l0 x5_1).f0).toList = a1.toList
          · rw [if_pos c5] at H
            have c5b0 : (((rd_T178 l0 x5_1).f0).toList == a1.toList) = true := beq_iff_eq.mpr c5
            have c5b1 : (((rd_T178 l0 x5_1).f0).toList != a1.toList) = false := bne_eq_false_iff_eq.mpr c5
            clear c5
            obtain rfl := Option.some.inj H
            have p533 : 0 ≤ (x5_1 : Int) := odt
            have q533 : x5_1 < (l0.length : Int) := odt
            obtain ⟨ad533, e533, hx533_0, hx533_1, hx533_2, hx533_3⟩ := at_T178 HR0.out x5_1 p533 q533
            cases e533
            replace p533 := eq_true p533
            replace q533 := eq_true q533
            go_wp2
            go_ret
            exact ⟨by first | rfl | (simp; done) | (simp [*]; done), by repeat (first | exact Drawn0.refl _ | apply Drawn0.step)⟩
          · rw [if_neg c5] at H
            have c5b0 : (((rd_T178 l0 x5_1).f0).toList == a1.toList) = false := beq_eq_false_iff_ne.mpr c5
            have c5b1 : (((rd_T178 l0 x5_1).f0).toList != a1.toList) = true := bne_iff_ne.mpr c5
            have H' := Aside0.mk H
            clear H
            have p533 : 0 ≤ (x5_1 : Int) := odt
            have q533 : x5_1 < (l0.length : Int) := odt
            obtain ⟨ad533, e533, hx533_0, hx533_1, hx533_2, hx533_3⟩ := at_T178 HR0.out x5_1 p533 q533
            cases e533
            replace p533 := eq_true p533
            replace q533 := eq_true q533
            go_wp2
            go_roundg k1
            case measure => have := HK1.out; omega
            case rel => exact ⟨(wrap64 (x5_1 + 1)), vE, H', ⟨by have := HK1.out; omega⟩, by repeat (first | exact Drawn0.refl _ | apply Drawn0.step)⟩
        · rw [if_neg c4] at H
          exact absurd H (by simp)
      · rw [if_neg c3] at H
        have c3b0 : decide (x5_1 < (l0.length : Int)) = false := decide_eq_false c3
        clear c3
        obtain rfl := Option.some.inj H
        go_wp2
        go_ret
        exact ⟨by first | rfl | (simp; done) | (simp [*]; done), by repeat (first | exact Drawn0.refl _ | apply Drawn0.step)⟩
end Go.Proofs.Ytcpljigliklgcaa.Q
end

section
namespace Go.Proofs.Ytcpljigliklgcaa.Q
open Go.RowKit Go.Proofs.YtcpljigliklgcaaW.PrintWords Go.Proofs.YtcpljigliklgcaaW.PrintLast Go.Proofs.YtcpljigliklgcaaW.PrintMore
attribute [local go_sem] max2_int min2_int max_two min_two max_three min_three max_four min_four   -- for this text's walks alone
set_option linter.unusedVariables false
set_option linter.unusedSimpArgs false
attribute [local go_sem] bin_leq bin_gtr bin_geq
def spec_l04OK.l0 : Nat → List (S178) → Int → Option (Bool)
 | 0, _, _ => none
 | k + 1, x0, x3 => if x3 < (x0.length : Int) then (if 0 ≤ x3 then ((spec_l00Word.f k ((rd_T178 x0 x3).f0)).bind fun t536 => (if t536 = true then ((spec_l01In.f ((rd_T178 x0 x3).f2) 1 1000000).bind fun t537 => (if t537 = true then ((spec_l04At.f k x0 ((rd_T178 x0 x3).f0)).bind fun t538 => (if t538 = x3 then (if (rd_T178 x0 x3).f3 = true then (if ((rd_T178 x0 x3).f1) = 0 then (if ((rd_T178 x0 x3).f3 = true) then (spec_l04OK.l0 k x0 (wrap64 (x3 + 1))) else ((spec_l01In.f ((rd_T178 x0 x3).f1) 1 60).bind fun t539 => (if t539 = true then (spec_l04OK.l0 k x0 (wrap64 (x3 + 1))) else (some false)))) else (some false)) else (if ((rd_T178 x0 x3).f3 = true) then (spec_l04OK.l0 k x0 (wrap64 (x3 + 1))) else ((spec_l01In.f ((rd_T178 x0 x3).f1) 1 60).bind fun t540 => (if t540 = true then (spec_l04OK.l0 k x0 (wrap64 (x3 + 1))) else (some false))))) else (some false))) else (some false))) else (some false))) else (none)) else (some true)
def spec_l04OK.f (k : Nat) (l0 : List (S178)) : Option (Bool) := if (l0.length : Int) > 8 then (some false) else (spec_l04OK.l0 k l0 0)
set_option maxHeartbeats 8000000 in
set_option maxRecDepth 100000 in
theorem spec_l04OK.calls (k : Nat) (A0 : Option Addr) (c0 : Nat) (l0 : List (S178)) (r : Bool) (w : World) (hr0 : Kd.C k178 w A0 l0.length l0) (hc0 : l0.length ≤ c0) (h : spec_l04OK.f k l0 = some r) :
  Calls Try.prog 149 #[.slice A0 l0.length c0] w fun e w' => e = .returned (.bool r) ∧ Below w.heap.size w w' := by
 have hu178 := Try.underlying178
 have HR0 := Aside0.mk hr0
 have HC0 := Aside0.mk hc0
 clear hr0 hc0
 have HB := Aside0.mk (Below.refl w.heap.size w)
 have H : (if (l0.length : Int) > 8 then (some false) else (spec_l04OK.l0 k l0 0)) = some r := h
 clear h
 by_cases c2 : (l0.length : Int) > 8
 ·rw [if_pos c2] at H
  have c2b0 : decide (8 < (l0.length : Int)) = true := decide_eq_true c2
  have c2b1 : decide (8 < l0.length) = true := decide_eq_true (by omega)
  clear c2
  obtain rfl := Option.some.inj H
  go_enter Try.func149, Try.ntmps149
  go_wp2
  go_ret
  exact ⟨rE, bW⟩
 ·rw [if_neg c2] at H
  have c2b0 : decide (8 < (l0.length : Int)) = false := decide_eq_false c2
  have c2b1 : decide (8 < l0.length) = false := decide_eq_false (by omega)
  clear c2
  have H' := Aside0.mk H
  clear H
  go_enter Try.func149, Try.ntmps149
  go_wp2
  go_loopg [3] k (fun kq v3 w' => ∃ (x3_1 : Int), v3 = .int .i64 x3_1 ∧ Aside0 (spec_l04OK.l0 kq l0 x3_1 = some r) ∧ Aside0 (kq ≤ k) ∧ Aside0 (Below w.heap.size w w'))
  case atStart => exact ⟨(0), vE, H', ⟨Nat.le_refl _⟩, ⟨bW⟩⟩
  case round =>
   clear H'
   try clear c1
   try clear c2
   try clear c2b0
   try clear c2b1
   try clear p2
   obtain ⟨x3_1, rfl, HA, HK1, HB⟩ := hrel
   cases gk with
   | zero => exact absurd HA.out (by simp [spec_l04OK.l0])
   | succ k1 =>
    have H := HA.out
    clear HA
    simp only [spec_l04OK.l0] at H
    by_cases c3 : x3_1 < (l0.length : Int)
    ·rw [if_pos c3] at H
     have c3b0 : decide (x3_1 < (l0.length : Int)) = true := decide_eq_true c3
     clear c3
     by_cases c4 : 0 ≤ x3_1
     ·rw [if_pos c4] at H
      have c4b0 : decide (0 ≤ x3_1) = true := decide_eq_true c4
      clear c4
      replace H := Option.bind_eq_some_iff.mp H
      obtain ⟨t536, A50, H⟩ := H
      replace H : (if t536 = true then ((spec_l01In.f ((rd_T178 l0 x3_1).f2) 1 1000000).bind fun t537 => (if t537 = true then ((spec_l04At.f k1 l0 ((rd_T178 l0 x3_1).f0)).bind fun t538 => (if t538 = x3_1 then (if (rd_T178 l0 x3_1).f3 = true then (if ((rd_T178 l0 x3_1).f1) = 0 then (if ((rd_T178 l0 x3_1).f3 = true) then (spec_l04OK.l0 k1 l0 (wrap64 (x3_1 + 1))) else ((spec_l01In.f ((rd_T178 l0 x3_1).f1) 1 60).bind fun t539 => (if t539 = true then (spec_l04OK.l0 k1 l0 (wrap64 (x3_1 + 1))) else (some false)))) else (some false)) else (if ((rd_T178 l0 x3_1).f3 = true) then (spec_l04OK.l0 k1 l0 (wrap64 (x3_1 + 1))) else ((spec_l01In.f ((rd_T178 l0 x3_1).f1) 1 60).bind fun t540 => (if t540 = true then (spec_l04OK.l0 k1 l0 (wrap64 (x3_1 + 1))) else (some false))))) else (some false))) else (some false))) else (some false)) = some r := H
      have A5 := Aside0.mk A50
      clear A50
      by_cases c6 : t536 = true
      ·subst c6
       have H1 : ((spec_l01In.f ((rd_T178 l0 x3_1).f2) 1 1000000).bind fun t537 => (if t537 = true then ((spec_l04At.f k1 l0 ((rd_T178 l0 x3_1).f0)).bind fun t538 => (if t538 = x3_1 then (if (rd_T178 l0 x3_1).f3 = true then (if ((rd_T178 l0 x3_1).f1) = 0 then (if ((rd_T178 l0 x3_1).f3 = true) then (spec_l04OK.l0 k1 l0 (wrap64 (x3_1 + 1))) else ((spec_l01In.f ((rd_T178 l0 x3_1).f1) 1 60).bind fun t539 => (if t539 = true then (spec_l04OK.l0 k1 l0 (wrap64 (x3_1 + 1))) else (some false)))) else (some false)) else (if ((rd_T178 l0 x3_1).f3 = true) then (spec_l04OK.l0 k1 l0 (wrap64 (x3_1 + 1))) else ((spec_l01In.f ((rd_T178 l0 x3_1).f1) 1 60).bind fun t540 => (if t540 = true then (spec_l04OK.l0 k1 l0 (wrap64 (x3_1 + 1))) else (some false))))) else (some false))) else (some false))) = some r := by rw [if_pos rfl] at H; exact H
       clear H
       have H := H1
       clear H1
       replace H := Option.bind_eq_some_iff.mp H
       obtain ⟨t537, A70, H⟩ := H
       replace H : (if t537 = true then ((spec_l04At.f k1 l0 ((rd_T178 l0 x3_1).f0)).bind fun t538 => (if t538 = x3_1 then (if (rd_T178 l0 x3_1).f3 = true then (if ((rd_T178 l0 x3_1).f1) = 0 then (if ((rd_T178 l0 x3_1).f3 = true) then (spec_l04OK.l0 k1 l0 (wrap64 (x3_1 + 1))) else ((spec_l01In.f ((rd_T178 l0 x3_1).f1) 1 60).bind fun t539 => (if t539 = true then (spec_l04OK.l0 k1 l0 (wrap64 (x3_1 + 1))) else (some false)))) else (some false)) else (if ((rd_T178 l0 x3_1).f3 = true) then (spec_l04OK.l0 k1 l0 (wrap64 (x3_1 + 1))) else ((spec_l01In.f ((rd_T178 l0 x3_1).f1) 1 60).bind fun t540 => (if t540 = true then (spec_l04OK.l0 k1 l0 (wrap64 (x3_1 + 1))) else (some false))))) else (some false))) else (some false)) = some r := H
       have A7 := Aside0.mk A70
       clear A70
       by_cases c8 : t537 = true
       ·subst c8
        have H1 : ((spec_l04At.f k1 l0 ((rd_T178 l0 x3_1).f0)).bind fun t538 => (if t538 = x3_1 then (if (rd_T178 l0 x3_1).f3 = true then (if ((rd_T178 l0 x3_1).f1) = 0 then (if ((rd_T178 l0 x3_1).f3 = true) then (spec_l04OK.l0 k1 l0 (wrap64 (x3_1 + 1))) else ((spec_l01In.f ((rd_T178 l0 x3_1).f1) 1 60).bind fun t539 => (if t539 = true then (spec_l04OK.l0 k1 l0 (wrap64 (x3_1 + 1))) else (some false)))) else (some false)) else (if ((rd_T178 l0 x3_1).f3 = true) then (spec_l04OK.l0 k1 l0 (wrap64 (x3_1 + 1))) else ((spec_l01In.f ((rd_T178 l0 x3_1).f1) 1 60).bind fun t540 => (if t540 = true then (spec_l04OK.l0 k1 l0 (wrap64 (x3_1 + 1))) else (some false))))) else (some false))) = some r := by rw [if_pos rfl] at H; exact H
        clear H
        have H := H1
        clear H1
        replace H := Option.bind_eq_some_iff.mp H
        obtain ⟨t538, A90, H⟩ := H
        replace H : (if t538 = x3_1 then (if (rd_T178 l0 x3_1).f3 = true then (if ((rd_T178 l0 x3_1).f1) = 0 then (if ((rd_T178 l0 x3_1).f3 = true) then (spec_l04OK.l0 k1 l0 (wrap64 (x3_1 + 1))) else ((spec_l01In.f ((rd_T178 l0 x3_1).f1) 1 60).bind fun t539 => (if t539 = true then (spec_l04OK.l0 k1 l0 (wrap64 (x3_1 + 1))) else (some false)))) else (some false)) else (if ((rd_T178 l0 x3_1).f3 = true) then (spec_l04OK.l0 k1 l0 (wrap64 (x3_1 + 1))) else ((spec_l01In.f ((rd_T178 l0 x3_1).f1) 1 60).bind fun t540 => (if t540 = true then (spec_l04OK.l0 k1 l0 (wrap64 (x3_1 + 1))) else (some false))))) else (some false)) = some r := H
        have A9 := Aside0.mk A90
        clear A90
        by_cases c10 : t538 = x3_1
        ·rw [if_pos c10] at H
         have c10b0 : (t538 == x3_1) = true := beq_iff_eq.mpr c10
         have c10b1 : (t538 != x3_1) = false := bne_eq_false_iff_eq.mpr c10
         clear c10
         obtain ⟨bq11, hbq11⟩ : ∃ b_ : Bool, b_ = ((rd_T178 l0 x3_1).f3) := ⟨_, rfl⟩
         replace H : (if bq11 = true then (if ((rd_T178 l0 x3_1).f1) = 0 then (if (bq11 = true) then (spec_l04OK.l0 k1 l0 (wrap64 (x3_1 + 1))) else ((spec_l01In.f ((rd_T178 l0 x3_1).f1) 1 60).bind fun t539 => (if t539 = true then (spec_l04OK.l0 k1 l0 (wrap64 (x3_1 + 1))) else (some false)))) else (some false)) else (if (bq11 = true) then (spec_l04OK.l0 k1 l0 (wrap64 (x3_1 + 1))) else ((spec_l01In.f ((rd_T178 l0 x3_1).f1) 1 60).bind fun t540 => (if t540 = true then (spec_l04OK.l0 k1 l0 (wrap64 (x3_1 + 1))) else (some false))))) = some r := by rw [← hbq11] at H; exact H
         have Nbq11 := Aside0.mk hbq11
         clear hbq11
         by_cases c12 : bq11 = true
         ·subst c12
          have H1 : (if ((rd_T178 l0 x3_1).f1) = 0 then (if (true = true) then (spec_l04OK.l0 k1 l0 (wrap64 (x3_1 + 1))) else ((spec_l01In.f ((rd_T178 l0 x3_1).f1) 1 60).bind fun t539 => (if t539 = true then (spec_l04OK.l0 k1 l0 (wrap64 (x3_1 + 1))) else (some false)))) else (some false)) = some r := by rw [if_pos rfl] at H; exact H
          clear H
          have H := H1
          clear H1
          by_cases c13 : ((rd_T178 l0 x3_1).f1) = 0
          ·rw [if_pos c13] at H
           have c13b0 : (((rd_T178 l0 x3_1).f1) == 0) = true := beq_iff_eq.mpr c13
           have c13b1 : (((rd_T178 l0 x3_1).f1) != 0) = false := bne_eq_false_iff_eq.mpr c13
           clear c13
           by_cases c14 : (true = true)
           ·skip
            have H1 : (spec_l04OK.l0 k1 l0 (wrap64 (x3_1 + 1))) = some r := by rw [if_pos rfl] at H; exact H
            clear H
            have H := H1
            clear H1
            have H' := Aside0.mk H
            clear H
            have p534 : 0 ≤ (x3_1 : Int) := odt
            have q534 : x3_1 < (l0.length : Int) := odt
            obtain ⟨ad534, e534, hx534_0, hx534_1, hx534_2, hx534_3⟩ := at_T178 HR0.out x3_1 p534 q534
            (try rw [← Nbq11.out] at hx534_3)
            cases e534
            replace hx534_0 := (HB.out.cell (World.block_lt_of_cell? w _ hx534_0)).trans hx534_0
            replace hx534_1 := (HB.out.cell (World.block_lt_of_cell? w _ hx534_1)).trans hx534_1
            replace hx534_2 := (HB.out.cell (World.block_lt_of_cell? w _ hx534_2)).trans hx534_2
            replace hx534_3 := (HB.out.cell (World.block_lt_of_cell? w _ hx534_3)).trans hx534_3
            replace p534 := eq_true p534
            replace q534 := eq_true q534
            go_wp2_with (first | ((with_reducible refine gate_dst (N := 4) rfl ?_); refine bE (N := 4) (cs := #[.string (⟨#[]⟩ : ByteArray), .int .i64 0, .int .i64 0, .bool false]) (t := 178) ?_; intro gb535 hg w15 hbox hb; have n0_ := Aside0.mk (below_step (w := w) bW hb); have n1_ := Aside0.mk (hbox); have n2_ := Aside0.mk (gS (w := w) hg); have n3_ := n2_; clear HB; have HB := n0_; have BK535 := n1_; have GW535 := n2_; have GE535 := n3_; clear n0_ n1_ n2_ n3_; clear hb hbox hg; obtain ⟨hcz16_0, hcz16_1, hcz16_2, hcz16_3⟩ := cz4 BK535; obtain ⟨hfz16_0, hfz16_1, hfz16_2, hfz16_3⟩ := fz4 BK535) | ((with_reducible refine gate_callee (f := 152) rfl ?_); refine goesL_ (some 20) rfl rfl Try.func152 (by kernel_rfl) rfl #[.string ((rd_T178 l0 x3_1).f0)] rfl gA ?_; (with_reducible refine (spec_l00Word.calls k1 ((rd_T178 l0 x3_1).f0) true _ A5.out).mono ?_); rintro e w' ⟨rfl, ⟨nd, rfl⟩⟩; refine ⟨_, rfl, ?_⟩) | (go_at_call 82; (with_reducible refine (spec_l01In.calls ((rd_T178 l0 x3_1).f2) 1 1000000 true _ A7.out).mono ?_); rintro e w' ⟨rfl, ⟨nd, rfl⟩⟩) | (go_at_call 214; (with_reducible refine (spec_l04At.calls k1 _ _ l0 ((rd_T178 l0 x3_1).f0) t538 _ ?side1 ?side2 A9.out).mono ?_); (case side1 => exact Kd.C_below HR0.out bW); (case side2 => exact HC0.out); rintro e w' ⟨rfl, ⟨nd, rfl⟩⟩))
            go_roundg k1
            case measure => have := HK1.out; omega
            case rel => exact ⟨(wrap64 (x3_1 + 1)), vE, H', ⟨by have := HK1.out; omega⟩, ⟨bW⟩⟩
           ·exact absurd rfl c14
          ·rw [if_neg c13] at H
           have c13b0 : (((rd_T178 l0 x3_1).f1) == 0) = false := beq_eq_false_iff_ne.mpr c13
           have c13b1 : (((rd_T178 l0 x3_1).f1) != 0) = true := bne_iff_ne.mpr c13
           obtain rfl := Option.some.inj H
           have p534 : 0 ≤ (x3_1 : Int) := odt
           have q534 : x3_1 < (l0.length : Int) := odt
           obtain ⟨ad534, e534, hx534_0, hx534_1, hx534_2, hx534_3⟩ := at_T178 HR0.out x3_1 p534 q534
           (try rw [← Nbq11.out] at hx534_3)
           cases e534
           replace hx534_0 := (HB.out.cell (World.block_lt_of_cell? w _ hx534_0)).trans hx534_0
           replace hx534_1 := (HB.out.cell (World.block_lt_of_cell? w _ hx534_1)).trans hx534_1
           replace hx534_2 := (HB.out.cell (World.block_lt_of_cell? w _ hx534_2)).trans hx534_2
           replace hx534_3 := (HB.out.cell (World.block_lt_of_cell? w _ hx534_3)).trans hx534_3
           replace p534 := eq_true p534
           replace q534 := eq_true q534
           go_wp2_with (first | ((with_reducible refine gate_dst (N := 4) rfl ?_); refine bE (N := 4) (cs := #[.string (⟨#[]⟩ : ByteArray), .int .i64 0, .int .i64 0, .bool false]) (t := 178) ?_; intro gb535 hg w23 hbox hb; have n0_ := Aside0.mk (below_step (w := w) bW hb); have n1_ := Aside0.mk (hbox); have n2_ := Aside0.mk (gS (w := w) hg); have n3_ := n2_; clear HB; have HB := n0_; have BK535 := n1_; have GW535 := n2_; have GE535 := n3_; clear n0_ n1_ n2_ n3_; clear hb hbox hg; obtain ⟨hcz24_0, hcz24_1, hcz24_2, hcz24_3⟩ := cz4 BK535; obtain ⟨hfz24_0, hfz24_1, hfz24_2, hfz24_3⟩ := fz4 BK535) | ((with_reducible refine gate_callee (f := 152) rfl ?_); refine goesL_ (some 20) rfl rfl Try.func152 (by kernel_rfl) rfl #[.string ((rd_T178 l0 x3_1).f0)] rfl gA ?_; (with_reducible refine (spec_l00Word.calls k1 ((rd_T178 l0 x3_1).f0) true _ A5.out).mono ?_); rintro e w' ⟨rfl, ⟨nd, rfl⟩⟩; refine ⟨_, rfl, ?_⟩) | (go_at_call 82; (with_reducible refine (spec_l01In.calls ((rd_T178 l0 x3_1).f2) 1 1000000 true _ A7.out).mono ?_); rintro e w' ⟨rfl, ⟨nd, rfl⟩⟩) | (go_at_call 214; (with_reducible refine (spec_l04At.calls k1 _ _ l0 ((rd_T178 l0 x3_1).f0) t538 _ ?side1 ?side2 A9.out).mono ?_); (case side1 => exact Kd.C_below HR0.out bW); (case side2 => exact HC0.out); rintro e w' ⟨rfl, ⟨nd, rfl⟩⟩))
           go_ret
           exact ⟨rE, bW⟩
         ·replace c12 := Bool.eq_false_iff.mpr c12
          subst c12
          have H1 : (if (false = true) then (spec_l04OK.l0 k1 l0 (wrap64 (x3_1 + 1))) else ((spec_l01In.f ((rd_T178 l0 x3_1).f1) 1 60).bind fun t540 => (if t540 = true then (spec_l04OK.l0 k1 l0 (wrap64 (x3_1 + 1))) else (some false)))) = some r := by rw [if_neg (show ¬ (false = true) by decide)] at H; exact H
          clear H
          have H := H1
          clear H1
          by_cases c25 : (false = true)
          ·exact absurd c25 (by decide)
          ·skip
           have H1 : ((spec_l01In.f ((rd_T178 l0 x3_1).f1) 1 60).bind fun t540 => (if t540 = true then (spec_l04OK.l0 k1 l0 (wrap64 (x3_1 + 1))) else (some false))) = some r := by rw [if_neg (show ¬ (false = true) by decide)] at H; exact H
           clear H
           have H := H1
           clear H1
           replace H := Option.bind_eq_some_iff.mp H
           obtain ⟨t540, A280, H⟩ := H
           replace H : (if t540 = true then (spec_l04OK.l0 k1 l0 (wrap64 (x3_1 + 1))) else (some false)) = some r := H
           have A28 := Aside0.mk A280
           clear A280
           by_cases c29 : t540 = true
           ·subst c29
            have H1 : (spec_l04OK.l0 k1 l0 (wrap64 (x3_1 + 1))) = some r := by rw [if_pos rfl] at H; exact H
            clear H
            have H := H1
            clear H1
            have H' := Aside0.mk H
            clear H
            have p534 : 0 ≤ (x3_1 : Int) := odt
            have q534 : x3_1 < (l0.length : Int) := odt
            obtain ⟨ad534, e534, hx534_0, hx534_1, hx534_2, hx534_3⟩ := at_T178 HR0.out x3_1 p534 q534
            (try rw [← Nbq11.out] at hx534_3)
            cases e534
            replace hx534_0 := (HB.out.cell (World.block_lt_of_cell? w _ hx534_0)).trans hx534_0
            replace hx534_1 := (HB.out.cell (World.block_lt_of_cell? w _ hx534_1)).trans hx534_1
            replace hx534_2 := (HB.out.cell (World.block_lt_of_cell? w _ hx534_2)).trans hx534_2
            replace hx534_3 := (HB.out.cell (World.block_lt_of_cell? w _ hx534_3)).trans hx534_3
            replace p534 := eq_true p534
            replace q534 := eq_true q534
            go_wp2_with (first | ((with_reducible refine gate_dst (N := 4) rfl ?_); refine bE (N := 4) (cs := #[.string (⟨#[]⟩ : ByteArray), .int .i64 0, .int .i64 0, .bool false]) (t := 178) ?_; intro gb535 hg w30 hbox hb; have n0_ := Aside0.mk (below_step (w := w) bW hb); have n1_ := Aside0.mk (hbox); have n2_ := Aside0.mk (gS (w := w) hg); have n3_ := n2_; clear HB; have HB := n0_; have BK535 := n1_; have GW535 := n2_; have GE535 := n3_; clear n0_ n1_ n2_ n3_; clear hb hbox hg; obtain ⟨hcz31_0, hcz31_1, hcz31_2, hcz31_3⟩ := cz4 BK535; obtain ⟨hfz31_0, hfz31_1, hfz31_2, hfz31_3⟩ := fz4 BK535) | ((with_reducible refine gate_callee (f := 152) rfl ?_); refine goesL_ (some 20) rfl rfl Try.func152 (by kernel_rfl) rfl #[.string ((rd_T178 l0 x3_1).f0)] rfl gA ?_; (with_reducible refine (spec_l00Word.calls k1 ((rd_T178 l0 x3_1).f0) true _ A5.out).mono ?_); rintro e w' ⟨rfl, ⟨nd, rfl⟩⟩; refine ⟨_, rfl, ?_⟩) | (go_at_call 82; (with_reducible refine (spec_l01In.calls ((rd_T178 l0 x3_1).f2) 1 1000000 true _ A7.out).mono ?_); rintro e w' ⟨rfl, ⟨nd, rfl⟩⟩) | (go_at_call 214; (with_reducible refine (spec_l04At.calls k1 _ _ l0 ((rd_T178 l0 x3_1).f0) t538 _ ?side1 ?side2 A9.out).mono ?_); (case side1 => exact Kd.C_below HR0.out bW); (case side2 => exact HC0.out); rintro e w' ⟨rfl, ⟨nd, rfl⟩⟩) | (go_at_call 82; (with_reducible refine (spec_l01In.calls ((rd_T178 l0 x3_1).f1) 1 60 true _ A28.out).mono ?_); rintro e w' ⟨rfl, ⟨nd, rfl⟩⟩))
            go_roundg k1
            case measure => have := HK1.out; omega
            case rel => exact ⟨(wrap64 (x3_1 + 1)), vE, H', ⟨by have := HK1.out; omega⟩, ⟨bW⟩⟩
           ·replace c29 := Bool.eq_false_iff.mpr c29
            subst c29
            have H1 : (some false) = some r := by rw [if_neg (show ¬ (false = true) by decide)] at H; exact H
            clear H
            have H := H1
            clear H1
            obtain rfl := Option.some.inj H
            have p534 : 0 ≤ (x3_1 : Int) := odt
            have q534 : x3_1 < (l0.length : Int) := odt
            obtain ⟨ad534, e534, hx534_0, hx534_1, hx534_2, hx534_3⟩ := at_T178 HR0.out x3_1 p534 q534
            (try rw [← Nbq11.out] at hx534_3)
            cases e534
            replace hx534_0 := (HB.out.cell (World.block_lt_of_cell? w _ hx534_0)).trans hx534_0
            replace hx534_1 := (HB.out.cell (World.block_lt_of_cell? w _ hx534_1)).trans hx534_1
            replace hx534_2 := (HB.out.cell (World.block_lt_of_cell? w _ hx534_2)).trans hx534_2
            replace hx534_3 := (HB.out.cell (World.block_lt_of_cell? w _ hx534_3)).trans hx534_3
            replace p534 := eq_true p534
            replace q534 := eq_true q534
            go_wp2_with (first | ((with_reducible refine gate_dst (N := 4) rfl ?_); refine bE (N := 4) (cs := #[.string (⟨#[]⟩ : ByteArray), .int .i64 0, .int .i64 0, .bool false]) (t := 178) ?_; intro gb535 hg w32 hbox hb; have n0_ := Aside0.mk (below_step (w := w) bW hb); have n1_ := Aside0.mk (hbox); have n2_ := Aside0.mk (gS (w := w) hg); have n3_ := n2_; clear HB; have HB := n0_; have BK535 := n1_; have GW535 := n2_; have GE535 := n3_; clear n0_ n1_ n2_ n3_; clear hb hbox hg; obtain ⟨hcz33_0, hcz33_1, hcz33_2, hcz33_3⟩ := cz4 BK535; obtain ⟨hfz33_0, hfz33_1, hfz33_2, hfz33_3⟩ := fz4 BK535) | ((with_reducible refine gate_callee (f := 152) rfl ?_); refine goesL_ (some 20) rfl rfl Try.func152 (by kernel_rfl) rfl #[.string ((rd_T178 l0 x3_1).f0)] rfl gA ?_; (with_reducible refine (spec_l00Word.calls k1 ((rd_T178 l0 x3_1).f0) true _ A5.out).mono ?_); rintro e w' ⟨rfl, ⟨nd, rfl⟩⟩; refine ⟨_, rfl, ?_⟩) | (go_at_call 82; (with_reducible refine (spec_l01In.calls ((rd_T178 l0 x3_1).f2) 1 1000000 true _ A7.out).mono ?_); rintro e w' ⟨rfl, ⟨nd, rfl⟩⟩) | (go_at_call 214; (with_reducible refine (spec_l04At.calls k1 _ _ l0 ((rd_T178 l0 x3_1).f0) t538 _ ?side1 ?side2 A9.out).mono ?_); (case side1 => exact Kd.C_below HR0.out bW); (case side2 => exact HC0.out); rintro e w' ⟨rfl, ⟨nd, rfl⟩⟩) | (go_at_call 82; (with_reducible refine (spec_l01In.calls ((rd_T178 l0 x3_1).f1) 1 60 false _ A28.out).mono ?_); rintro e w' ⟨rfl, ⟨nd, rfl⟩⟩))
            go_ret
            exact ⟨rE, bW⟩
        ·rw [if_neg c10] at H
         have c10b0 : (t538 == x3_1) = false := beq_eq_false_iff_ne.mpr c10
         have c10b1 : (t538 != x3_1) = true := bne_iff_ne.mpr c10
         obtain rfl := Option.some.inj H
         have p534 : 0 ≤ (x3_1 : Int) := odt
         have q534 : x3_1 < (l0.length : Int) := odt
         obtain ⟨ad534, e534, hx534_0, hx534_1, hx534_2, hx534_3⟩ := at_T178 HR0.out x3_1 p534 q534
         cases e534
         replace hx534_0 := (HB.out.cell (World.block_lt_of_cell? w _ hx534_0)).trans hx534_0
         replace hx534_1 := (HB.out.cell (World.block_lt_of_cell? w _ hx534_1)).trans hx534_1
         replace hx534_2 := (HB.out.cell (World.block_lt_of_cell? w _ hx534_2)).trans hx534_2
         replace hx534_3 := (HB.out.cell (World.block_lt_of_cell? w _ hx534_3)).trans hx534_3
         replace p534 := eq_true p534
         replace q534 := eq_true q534
         go_wp2_with (first | ((with_reducible refine gate_dst (N := 4) rfl ?_); refine bE (N := 4) (cs := #[.string (⟨#[]⟩ : ByteArray), .int .i64 0, .int .i64 0, .bool false]) (t := 178) ?_; intro gb535 hg w34 hbox hb; have n0_ := Aside0.mk (below_step (w := w) bW hb); have n1_ := Aside0.mk (hbox); have n2_ := Aside0.mk (gS (w := w) hg); have n3_ := n2_; clear HB; have HB := n0_; have BK535 := n1_; have GW535 := n2_; have GE535 := n3_; clear n0_ n1_ n2_ n3_; clear hb hbox hg; obtain ⟨hcz35_0, hcz35_1, hcz35_2, hcz35_3⟩ := cz4 BK535; obtain ⟨hfz35_0, hfz35_1, hfz35_2, hfz35_3⟩ := fz4 BK535) | ((with_reducible refine gate_callee (f := 152) rfl ?_); refine goesL_ (some 20) rfl rfl Try.func152 (by kernel_rfl) rfl #[.string ((rd_T178 l0 x3_1).f0)] rfl gA ?_; (with_reducible refine (spec_l00Word.calls k1 ((rd_T178 l0 x3_1).f0) true _ A5.out).mono ?_); rintro e w' ⟨rfl, ⟨nd, rfl⟩⟩; refine ⟨_, rfl, ?_⟩) | (go_at_call 82; (with_reducible refine (spec_l01In.calls ((rd_T178 l0 x3_1).f2) 1 1000000 true _ A7.out).mono ?_); rintro e w' ⟨rfl, ⟨nd, rfl⟩⟩) | (go_at_call 214; (with_reducible refine (spec_l04At.calls k1 _ _ l0 ((rd_T178 l0 x3_1).f0) t538 _ ?side1 ?side2 A9.out).mono ?_); (case side1 => exact Kd.C_below HR0.out bW); (case side2 => exact HC0.out); rintro e w' ⟨rfl, ⟨nd, rfl⟩⟩))
         go_ret
         exact ⟨rE, bW⟩
       ·replace c8 := Bool.eq_false_iff.mpr c8
        subst c8
        have H1 : (some false) = some r := by rw [if_neg (show ¬ (false = true) by decide)] at H; exact H
        clear H
        have H := H1
        clear H1
        obtain rfl := Option.some.inj H
        have p534 : 0 ≤ (x3_1 : Int) := odt
        have q534 : x3_1 < (l0.length : Int) := odt
        obtain ⟨ad534, e534, hx534_0, hx534_1, hx534_2, hx534_3⟩ := at_T178 HR0.out x3_1 p534 q534
        cases e534
        replace hx534_0 := (HB.out.cell (World.block_lt_of_cell? w _ hx534_0)).trans hx534_0
        replace hx534_1 := (HB.out.cell (World.block_lt_of_cell? w _ hx534_1)).trans hx534_1
        replace hx534_2 := (HB.out.cell (World.block_lt_of_cell? w _ hx534_2)).trans hx534_2
        replace hx534_3 := (HB.out.cell (World.block_lt_of_cell? w _ hx534_3)).trans hx534_3
        replace p534 := eq_true p534
        replace q534 := eq_true q534
        go_wp2_with (first | ((with_reducible refine gate_dst (N := 4) rfl ?_); refine bE (N := 4) (cs := #[.string (⟨#[]⟩ : ByteArray), .int .i64 0, .int .i64 0, .bool false]) (t := 178) ?_; intro gb535 hg w36 hbox hb; have n0_ := Aside0.mk (below_step (w := w) bW hb); have n1_ := Aside0.mk (hbox); have n2_ := Aside0.mk (gS (w := w) hg); have n3_ := n2_; clear HB; have HB := n0_; have BK535 := n1_; have GW535 := n2_; have GE535 := n3_; clear n0_ n1_ n2_ n3_; clear hb hbox hg; obtain ⟨hcz37_0, hcz37_1, hcz37_2, hcz37_3⟩ := cz4 BK535; obtain ⟨hfz37_0, hfz37_1, hfz37_2, hfz37_3⟩ := fz4 BK535) | ((with_reducible refine gate_callee (f := 152) rfl ?_); refine goesL_ (some 20) rfl rfl Try.func152 (by kernel_rfl) rfl #[.string ((rd_T178 l0 x3_1).f0)] rfl gA ?_; (with_reducible refine (spec_l00Word.calls k1 ((rd_T178 l0 x3_1).f0) true _ A5.out).mono ?_); rintro e w' ⟨rfl, ⟨nd, rfl⟩⟩; refine ⟨_, rfl, ?_⟩) | (go_at_call 82; (with_reducible refine (spec_l01In.calls ((rd_T178 l0 x3_1).f2) 1 1000000 false _ A7.out).mono ?_); rintro e w' ⟨rfl, ⟨nd, rfl⟩⟩))
        go_ret
        exact ⟨rE, bW⟩
      ·replace c6 := Bool.eq_false_iff.mpr c6
       subst c6
       have H1 : (some false) = some r := by rw [if_neg (show ¬ (false = true) by decide)] at H; exact H
       clear H
       have H := H1
       clear H1
       obtain rfl := Option.some.inj H
       have p534 : 0 ≤ (x3_1 : Int) := odt
       have q534 : x3_1 < (l0.length : Int) := odt
       obtain ⟨ad534, e534, hx534_0, hx534_1, hx534_2, hx534_3⟩ := at_T178 HR0.out x3_1 p534 q534
       cases e534
       replace hx534_0 := (HB.out.cell (World.block_lt_of_cell? w _ hx534_0)).trans hx534_0
       replace hx534_1 := (HB.out.cell (World.block_lt_of_cell? w _ hx534_1)).trans hx534_1
       replace hx534_2 := (HB.out.cell (World.block_lt_of_cell? w _ hx534_2)).trans hx534_2
       replace hx534_3 := (HB.out.cell (World.block_lt_of_cell? w _ hx534_3)).trans hx534_3
       replace p534 := eq_true p534
       replace q534 := eq_true q534
       go_wp2_with (first | ((with_reducible refine gate_dst (N := 4) rfl ?_); refine bE (N := 4) (cs := #[.string (⟨#[]⟩ : ByteArray), .int .i64 0, .int .i64 0, .bool false]) (t := 178) ?_; intro gb535 hg w38 hbox hb; have n0_ := Aside0.mk (below_step (w := w) bW hb); have n1_ := Aside0.mk (hbox); have n2_ := Aside0.mk (gS (w := w) hg); have n3_ := n2_; clear HB; have HB := n0_; have BK535 := n1_; have GW535 := n2_; have GE535 := n3_; clear n0_ n1_ n2_ n3_; clear hb hbox hg; obtain ⟨hcz39_0, hcz39_1, hcz39_2, hcz39_3⟩ := cz4 BK535; obtain ⟨hfz39_0, hfz39_1, hfz39_2, hfz39_3⟩ := fz4 BK535) | ((with_reducible refine gate_callee (f := 152) rfl ?_); refine goesL_ (some 20) rfl rfl Try.func152 (by kernel_rfl) rfl #[.string ((rd_T178 l0 x3_1).f0)] rfl gA ?_; (with_reducible refine (spec_l00Word.calls k1 ((rd_T178 l0 x3_1).f0) false _ A5.out).mono ?_); rintro e w' ⟨rfl, ⟨nd, rfl⟩⟩; refine ⟨_, rfl, ?_⟩))
       go_ret
       exact ⟨rE, bW⟩
     ·rw [if_neg c4] at H
      exact absurd H (by simp)
    ·rw [if_neg c3] at H
     have c3b0 : decide (x3_1 < (l0.length : Int)) = false := decide_eq_false c3
     clear c3
     obtain rfl := Option.some.inj H
     go_wp2
     go_ret
     exact ⟨rE, bW⟩
end Go.Proofs.Ytcpljigliklgcaa.Q
end

section
namespace Go.Proofs.Ytcpljigliklgcaa.Q
open Go.RowKit Go.Proofs.YtcpljigliklgcaaW.PrintWords Go.Proofs.YtcpljigliklgcaaW.PrintLast Go.Proofs.YtcpljigliklgcaaW.PrintMore
attribute [local go_sem] max2_int min2_int max_two min_two max_three min_three max_four min_four   -- for this text's walks alone
set_option linter.unusedVariables false
set_option linter.unusedSimpArgs false
attribute [local go_sem] bin_leq bin_gtr bin_geq
def impl_isLetter.f (a0 : Int) : Option (Bool) := if a0 ≥ 97 then (if a0 ≤ 122 then (some true) else (if a0 ≥ 65 then (if a0 ≤ 90 then (some true) else (some (a0 == 95))) else (some (a0 == 95)))) else (if a0 ≥ 65 then (if a0 ≤ 90 then (some true) else (some (a0 == 95))) else (some (a0 == 95)))
set_option maxHeartbeats 8000000 in
set_option maxRecDepth 100000 in
theorem impl_isLetter.calls (a0 : Int) (r : Bool) (w : World) (h : impl_isLetter.f a0 = some r) :
    Calls Try.prog 179 #[.int .u8 a0] w fun e w' => e = .returned (.bool r) ∧ Drawn0 w w' := by
  have H : (if a0 ≥ 97 then (if a0 ≤ 122 then (some true) else (if a0 ≥ 65 then (if a0 ≤ 90 then (some true) else (some (a0 == 95))) else (some (a0 == 95)))) else (if a0 ≥ 65 then (if a0 ≤ 90 then (some true) else (some (a0 == 95))) else (some (a0 == 95)))) = some r := h
  clear h
  by_cases c2 : a0 ≥ 97
  · rw [if_pos c2] at H
    have c2b0 : decide (97 ≤ a0) = true := decide_eq_true c2
    clear c2
    by_cases c3 : a0 ≤ 122
    · rw [if_pos c3] at H
      have c3b0 : decide (a0 ≤ 122) = true := decide_eq_true c3
      clear c3
      obtain rfl := Option.some.inj H
      go_enter Try.func179, Try.ntmps179
      go_wp2
      go_ret
      exact ⟨by first | rfl | (simp; done) | (simp [*]; done), by repeat (first | exact Drawn0.refl _ | apply Drawn0.step)⟩
    · rw [if_neg c3] at H
      have c3b0 : decide (a0 ≤ 122) = false := decide_eq_false c3
      clear c3
      by_cases c4 : a0 ≥ 65
      · rw [if_pos c4] at H
        have c4b0 : decide (65 ≤ a0) = true := decide_eq_true c4
        clear c4
        by_cases c5 : a0 ≤ 90
        · rw [if_pos c5] at H
          have c5b0 : decide (a0 ≤ 90) = true := decide_eq_true c5
          clear c5
          obtain rfl := Option.some.inj H
          go_enter Try.func179, Try.ntmps179
          go_wp2
          go_ret
          exact ⟨by first | rfl | (simp; done) | (simp [*]; done), by repeat (first | exact Drawn0.refl _ | apply Drawn0.step)⟩
        · rw [if_neg c5] at H
          have c5b0 : decide (a0 ≤ 90) = false := decide_eq_false c5
          clear c5
          obtain rfl := Option.some.inj H
          go_enter Try.func179, Try.ntmps179
          go_wp2
          go_ret
          exact ⟨by first | rfl | (simp; done) | (simp [*]; done), by repeat (first | exact Drawn0.refl _ | apply Drawn0.step)⟩
      · rw [if_neg c4] at H
        have c4b0 : decide (65 ≤ a0) = false := decide_eq_false c4
        clear c4
        obtain rfl := Option.some.inj H
        go_enter Try.func179, Try.ntmps179
        go_wp2
        go_ret
        exact ⟨by first | rfl | (simp; done) | (simp [*]; done), by repeat (first | exact Drawn0.refl _ | apply Drawn0.step)⟩
  · rw [if_neg c2] at H
    have c2b0 : decide (97 ≤ a0) = false := decide_eq_false c2
    clear c2
    by_cases c6 : a0 ≥ 65
    · rw [if_pos c6] at H
      have c6b0 : decide (65 ≤ a0) = true := decide_eq_true c6
      clear c6
      by_cases c7 : a0 ≤ 90
      · rw [if_pos c7] at H
        have c7b0 : decide (a0 ≤ 90) = true := decide_eq_true c7
        clear c7
        obtain rfl := Option.some.inj H
        go_enter Try.func179, Try.ntmps179
        go_wp2
        go_ret
        exact ⟨by first | rfl | (simp; done) | (simp [*]; done), by repeat (first | exact Drawn0.refl _ | apply Drawn0.step)⟩
      · rw [if_neg c7] at H
        have c7b0 : decide (a0 ≤ 90) = false := decide_eq_false c7
        clear c7
        obtain rfl := Option.some.inj H
        go_enter Try.func179, Try.ntmps179
        go_wp2
        go_ret
        exact ⟨by first | rfl | (simp; done) | (simp [*]; done), by repeat (first | exact Drawn0.refl _ | apply Drawn0.step)⟩
    · rw [if_neg c6] at H
      have c6b0 : decide (65 ≤ a0) = false := decide_eq_false c6
      clear c6
      obtain rfl := Option.some.inj H
      go_enter Try.func179, Try.ntmps179
      go_wp2
      go_ret
      exact ⟨by first | rfl | (simp; done) | (simp [*]; done), by repeat (first | exact Drawn0.refl _ | apply Drawn0.step)⟩
end Go.Proofs.Ytcpljigliklgcaa.Q
end

section
namespace Go.Proofs.Ytcpljigliklgcaa.Q
open Go.RowKit Go.Proofs.YtcpljigliklgcaaW.PrintWords Go.Proofs.YtcpljigliklgcaaW.PrintLast Go.Proofs.YtcpljigliklgcaaW.PrintMore
attribute [local go_sem] max2_int min2_int max_two min_two max_three min_three max_four min_four   -- for this text's walks alone
set_option linter.unusedVariables false
set_option linter.unusedSimpArgs false
attribute [local go_sem] bin_leq bin_gtr bin_geq
def impl_isDigit.f (a0 : Int) : Option (Bool) := if a0 ≥ 48 then (some (decide (a0 ≤ 57))) else (some false)
set_option maxHeartbeats 8000000 in
set_option maxRecDepth 100000 in
theorem impl_isDigit.calls (a0 : Int) (r : Bool) (w : World) (h : impl_isDigit.f a0 = some r) :
    Calls Try.prog 182 #[.int .u8 a0] w fun e w' => e = .returned (.bool r) ∧ Drawn0 w w' := by
  have H : (if a0 ≥ 48 then (some (decide (a0 ≤ 57))) else (some false)) = some r := h
  clear h
  by_cases c2 : a0 ≥ 48
  · rw [if_pos c2] at H
    have c2b0 : decide (48 ≤ a0) = true := decide_eq_true c2
    clear c2
    obtain rfl := Option.some.inj H
    go_enter Try.func182, Try.ntmps182
    go_wp2
    go_ret
    exact ⟨by first | rfl | (simp; done) | (simp [*]; done), by repeat (first | exact Drawn0.refl _ | apply Drawn0.step)⟩
  · rw [if_neg c2] at H
    have c2b0 : decide (48 ≤ a0) = false := decide_eq_false c2
    clear c2
    obtain rfl := Option.some.inj H
    go_enter Try.func182, Try.ntmps182
    go_wp2
    go_ret
    exact ⟨by first | rfl | (simp; done) | (simp [*]; done), by repeat (first | exact Drawn0.refl _ | apply Drawn0.step)⟩
end Go.Proofs.Ytcpljigliklgcaa.Q
end

section
namespace Go.Proofs.Ytcpljigliklgcaa.Q
open Go.RowKit Go.Proofs.YtcpljigliklgcaaW.PrintWords Go.Proofs.YtcpljigliklgcaaW.PrintLast Go.Proofs.YtcpljigliklgcaaW.PrintMore
attribute [local go_sem] max2_int min2_int max_two min_two max_three min_three max_four min_four   -- for this text's walks alone
set_option linter.unusedVariables false
set_option linter.unusedSimpArgs false
attribute [local go_sem] bin_leq bin_gtr bin_geq
def letB (c : Int) : Bool := (decide (97 ≤ c) && decide (c ≤ 122)) || (decide (65 ≤ c) && decide (c ≤ 90)) || c == 95
def digB (c : Int) : Bool := decide (48 ≤ c) && decide (c ≤ 57)
def bytesL (s : ByteArray) : List Int := s.data.toList.map fun b => (b.toNat : Int)
def nameB (s : ByteArray) : Bool := decide (1 ≤ s.size) && decide (s.size ≤ 12) && letB (bt s 0) && (bytesL s).all (fun c => letB c || digB c)
theorem letB_f (c : Int) : impl_isLetter.f c = some (letB c) := by
  unfold impl_isLetter.f letB
  by_cases h1 : 97 ≤ c <;> by_cases h2 : c ≤ 122 <;> by_cases h3 : 65 ≤ c <;> by_cases h4 : c ≤ 90 <;> simp [h1, h2, h3, h4]
theorem digB_f (c : Int) : impl_isDigit.f c = some (digB c) := by
  unfold impl_isDigit.f digB
  by_cases h1 : 48 ≤ c <;> by_cases h2 : c ≤ 57 <;> simp [h1, h2]
theorem bytesL_length (s : ByteArray) : (bytesL s).length = s.size := by simp [bytesL]
theorem bytesL_get (s : ByteArray) (j : Nat) : (bytesL s).getD j 0 = ((s.data.toList.getD j 0).toNat : Int) := by
  simp only [bytesL, List.getD_eq_getElem?_getD, List.getElem?_map]
  cases s.data.toList[j]? <;> simp
theorem bytesL_cells (w : World) (s : ByteArray) (hs : s.size ≤ 9223372036854775807) : Kd.C (Kd.int .u8) (Go.Lib.bytesWorld w 5 s) (some ⟨w.heap.size, 0, none⟩) (bytesL s).length (bytesL s) := by
  refine Kd.C_of_reads (d := (0 : Int)) ⟨rfl, by rw [bytesL_length]; exact hs, fun _ => ⟨_, rfl, fun j hj => ?_⟩⟩
  rw [bytesL_length] at hj
  rw [add_plain, Go.Lib.bytesWorld_cell w 5 s j hj, bytesL_get]
theorem below_bytes (w : World) (s : ByteArray) (e : TypeId) : Below w.heap.size w (Go.Lib.bytesWorld w e s) := by
  refine ⟨rfl, rfl, rfl, ?_, fun i hi => Go.Lib.bytesWorld_at_old w e s i hi⟩
  rw [Go.Lib.bytesWorld_size]
  omega
end Go.Proofs.Ytcpljigliklgcaa.Q
end

section
namespace Go.Proofs.Ytcpljigliklgcaa.Q
open Go.RowKit Go.Proofs.YtcpljigliklgcaaW.PrintWords Go.Proofs.YtcpljigliklgcaaW.PrintLast Go.Proofs.YtcpljigliklgcaaW.PrintMore
attribute [local go_sem] max2_int min2_int max_two min_two max_three min_three max_four min_four   -- for this text's walks alone
set_option linter.unusedVariables false
set_option linter.unusedSimpArgs false
attribute [local go_sem] bin_leq bin_gtr bin_geq
def inB (n lo hi : Int) : Bool := decide (lo ≤ n) && decide (n ≤ hi)
theorem bytesL_bt (s : ByteArray) (i : Int) (hl : i.toNat < (bytesL s).length) : (bytesL s)[i.toNat] = bt s i := by
  have h2 := bytesL_get s i.toNat
  rw [List.getD_eq_getElem?_getD, List.getElem?_eq_getElem hl] at h2
  have h3 : i.toNat < s.size := by rw [bytesL_length] at hl; exact hl
  simp only [Option.getD_some] at h2
  rw [h2, bt, dif_pos h3, List.getD_eq_getElem?_getD, List.getElem?_eq_getElem (by simpa using h3)]
  rfl
theorem l00Word_l0 (s : ByteArray) (hs : s.size ≤ 12) (d : Nat) : ∀ (k : Nat) (i : Int), 0 ≤ i → i ≤ s.size → (s.size : Int) - i = d → d < k → spec_l00Word.l0 k s i = some (((bytesL s).drop i.toNat).all (fun c => letB c || digB c)) := by
  induction d with
  | zero =>
    intro k i h0 h1 hd hk
    obtain ⟨k, rfl⟩ : ∃ m, k = m + 1 := ⟨k - 1, by omega⟩
    simp only [spec_l00Word.l0]
    rw [if_neg (by omega), List.drop_eq_nil_of_le (by rw [bytesL_length]; omega)]
    rfl
  | succ d ih =>
    intro k i h0 h1 hd hk
    obtain ⟨k, rfl⟩ : ∃ m, k = m + 1 := ⟨k - 1, by omega⟩
    have hw : wrap64 (i + 1) = i + 1 := by unfold wrap64; omega
    have e : (i + 1).toNat = i.toNat + 1 := by omega
    have hl : i.toNat < (bytesL s).length := by rw [bytesL_length]; omega
    have hb : (bytesL s)[i.toNat] = bt s i := bytesL_bt s i hl
    have hi := ih k (i + 1) (by omega) (by omega) (by omega) (by omega)
    have lf := letB_f (bt s i)
    have df := digB_f (bt s i)
    have lf2 : spec_l00Letter.f (bt s i) = some (letB (bt s i)) := lf
    have df2 : spec_l00Digit.f (bt s i) = some (digB (bt s i)) := df
    simp only [spec_l00Word.l0]
    rw [if_pos (by omega), if_pos h0, lf2, List.drop_eq_getElem_cons hl, hb, hw, hi, e]
    simp only [Option.bind_some, List.all_cons]
    cases hL : letB (bt s i)
    · rw [df2]
      simp only [Option.bind_some]
      cases hD : digB (bt s i) <;> simp
    · simp
theorem l00Word_f (s : ByteArray) : spec_l00Word.f 20 s = some (nameB s) := by
  unfold spec_l00Word.f
  by_cases h1 : (s.size : Int) < 1
  · rw [if_pos h1]
    have : nameB s = false := by
      unfold nameB
      have h3 : ¬ 1 ≤ s.size := by omega
      simp [h3]
    rw [this]; simp [spec_l00Word.j0]
  · rw [if_neg h1]
    by_cases h2 : (s.size : Int) > 12
    · rw [if_pos h2]
      have : nameB s = false := by
        unfold nameB
        have h3 : ¬ s.size ≤ 12 := by omega
        simp [h3]
      rw [this]; simp [spec_l00Word.j0]
    · rw [if_neg h2, if_pos (by omega)]
      have lf2 : spec_l00Letter.f (bt s 0) = some (letB (bt s 0)) := letB_f (bt s 0)
      rw [lf2]
      simp only [Option.bind_some]
      have h3 : 1 ≤ s.size := by omega
      have h4 : s.size ≤ 12 := by omega
      cases hL : letB (bt s 0)
      · simp [spec_l00Word.j0, nameB, hL]
      · simp only [spec_l00Word.j0]
        rw [if_neg (by decide), l00Word_l0 s h4 (s.size - 1) 19 1 (by omega) (by omega) (by omega) (by omega)]
        have hl : 0 < (bytesL s).length := by rw [bytesL_length]; omega
        have hb : (bytesL s)[0] = bt s 0 := bytesL_bt s 0 hl
        have : (bytesL s).all (fun c => letB c || digB c) = ((bytesL s).drop 1).all (fun c => letB c || digB c) := by
          have h5 := List.drop_eq_getElem_cons hl
          rw [List.drop_zero] at h5
          rw [h5, List.all_cons, hb, hL]; simp
        unfold nameB
        rw [this, hL]
        simp [h3, h4]
theorem l00Word_call (s : ByteArray) (w : World) (r : Bool) (h : nameB s = r) : Calls Try.prog 152 #[.string s] w fun e w' => e = .returned (.bool r) ∧ Drawn0 w w' :=
  spec_l00Word.calls 20 s r w (by rw [l00Word_f, h])
theorem l01In_call (n lo hi : Int) (w : World) (r : Bool) (h : inB n lo hi = r) : Calls Try.prog 82 #[.int .i64 n, .int .i64 lo, .int .i64 hi] w fun e w' => e = .returned (.bool r) ∧ Drawn0 w w' :=
  spec_l01In.calls n lo hi r w (by rw [← h]; unfold spec_l01In.f inB; by_cases h1 : lo ≤ n <;> simp [h1])
end Go.Proofs.Ytcpljigliklgcaa.Q
end

section
namespace Go.Proofs.Ytcpljigliklgcaa.Q
open Go.RowKit Go.Proofs.YtcpljigliklgcaaW.PrintWords Go.Proofs.YtcpljigliklgcaaW.PrintLast Go.Proofs.YtcpljigliklgcaaW.PrintMore
attribute [local go_sem] max2_int min2_int max_two min_two max_three min_three max_four min_four   -- for this text's walks alone
set_option linter.unusedVariables false
set_option linter.unusedSimpArgs false
attribute [local go_sem] bin_leq bin_gtr bin_geq
def entB (e : S51) : Bool := nameB e.f0 && inB e.f1 (-1000000) 1000000
def entAt (m : List S51) (j : Nat) : Bool := entB (rd_T51 m (j : Int)) && (j == 0 || sblt (rd_T51 m ((j : Int) - 1)).f0 (rd_T51 m (j : Int)).f0)
def mapB (m : List S51) : Bool := decide (m.length ≤ 12) && allR (entAt m) m.length
end Go.Proofs.Ytcpljigliklgcaa.Q
end

section
namespace Go.Proofs.Ytcpljigliklgcaa.Q
open Go.RowKit Go.Proofs.YtcpljigliklgcaaW.PrintWords Go.Proofs.YtcpljigliklgcaaW.PrintLast Go.Proofs.YtcpljigliklgcaaW.PrintMore
attribute [local go_sem] max2_int min2_int max_two min_two max_three min_three max_four min_four   -- for this text's walks alone
set_option linter.unusedVariables false
set_option linter.unusedSimpArgs false
attribute [local go_sem] bin_leq bin_gtr bin_geq
def spec_l01OK.f (l0 : List (S51)) : Option (Bool) := some (mapB l0)
set_option maxHeartbeats 4000000 in
set_option maxRecDepth 100000 in
theorem spec_l01OK.calls (A0 : Option Addr) (c0 : Nat) (l0 : List (S51)) (r : Bool) (w : World) (hr0 : Kd.C k51 w A0 l0.length l0) (hc0 : l0.length ≤ c0) (h : spec_l01OK.f l0 = some r) :
    Calls Try.prog 96 #[.slice A0 l0.length c0] w fun e w' => e = .returned (.bool r) ∧ Drawn0 w w' := by
  obtain rfl := Option.some.inj h
  clear h
  have HM : l0.length ≤ 9223372036854775807 := hr0.2.1
  have HR0 := Aside0.mk hr0
  clear hr0 hc0
  by_cases hlen : l0.length ≤ 12
  · have RT := Aside0.mk (show allR (entAt l0) l0.length = mapB l0 by simp [mapB, hlen])
    go_enter Try.func96, Try.ntmps96
    go_wp2
    go_loopg [3] l0.length (fun gk v3 w' => ∃ x : Int, v3 = .int .i64 x ∧ 0 ≤ x ∧ x ≤ l0.length ∧ l0.length - x.toNat ≤ gk ∧ Aside0 (∀ j, j < x.toNat → entAt l0 j = true) ∧ Aside0 (Drawn0 w w'))
    case atStart => exact ⟨0, rfl, by omega, by omega, by omega, ⟨fun j hj => absurd hj (by simp)⟩, ⟨Drawn0.refl _⟩⟩
    case round =>
      obtain ⟨x, rfl, h0, h1, hg, HA, HD⟩ := hrel
      by_cases hlt : x < (l0.length : Int)
      · have HRW := Aside0.mk (C_drawn HR0.out HD.out)
        obtain ⟨ad, e1, hx0, hx1⟩ := at_T51 HRW.out x h0 hlt
        cases e1
        have ex : ((x.toNat : Nat) : Int) = x := by omega
        have E0 := Aside0.mk (show entAt l0 x.toNat = (entB (rd_T51 l0 x) && (x.toNat == 0 || sblt (rd_T51 l0 (x - 1)).f0 (rd_T51 l0 x).f0)) by unfold entAt; rw [ex])
        clear ex
        cases hN : nameB (rd_T51 l0 x).f0 with
        | false =>
          have HN := Aside0.mk hN
          have E1 := Aside0.mk (show mapB l0 = false by rw [← RT.out]; exact allR_false (j := x.toNat) (by omega) (by rw [E0.out, entB, HN.out]; rfl))
          clear hN
          go_wp2
          go_quiet ((go_at_call 152; exact quiet_ (l00Word_call _ _ _ HN.out)))
          go_wp2
          go_ret
          exact ⟨by rw [E1.out]; rfl, drawn_then HD.out (drawn_q _)⟩
        | true =>
          have HN := Aside0.mk hN
          clear hN
          cases hV : inB (rd_T51 l0 x).f1 (-1000000) 1000000 with
          | false =>
            have HV := Aside0.mk hV
            have E1 := Aside0.mk (show mapB l0 = false by rw [← RT.out]; exact allR_false (j := x.toNat) (by omega) (by rw [E0.out, entB, HN.out, HV.out]; rfl))
            clear hV
            go_wp2
            go_quiet ((first | (go_at_call 152; exact quiet_ (l00Word_call _ _ _ HN.out)) | (go_at_call 82; exact quiet_ (l01In_call _ _ _ _ _ HV.out))))
            go_wp2
            go_ret
            exact ⟨by rw [E1.out]; rfl, drawn_then HD.out (drawn_q _)⟩
          | true =>
            have HV := Aside0.mk hV
            clear hV
            by_cases hpos : 0 < x
            · obtain ⟨ad', e2, hz0, hz1⟩ := at_T51 HRW.out (x - 1) (by omega) (by omega)
              cases e2
              rw [show (x - 1).toNat = x.toNat - 1 by omega] at hz0
              clear hz1
              cases hS : sblt (rd_T51 l0 (x - 1)).f0 (rd_T51 l0 x).f0 with
              | false =>
                have HS := Aside0.mk hS
                have E1 := Aside0.mk (show mapB l0 = false by
                  rw [← RT.out]
                  have h2 : (x.toNat == 0) = false := by simp; omega
                  exact allR_false (j := x.toNat) (by omega) (by rw [E0.out, entB, HN.out, HV.out, HS.out, h2]; rfl))
                have hS1 : Op.bytesLess (rd_T51 l0 (x - 1)).f0.toList (rd_T51 l0 x).f0.toList = false := hS
                clear hS
                have p1 : 0 ≤ x - 1 := by omega
                have p2 : x - 1 < (l0.length : Int) := by omega
                have p3 : 1 ≤ x := by omega
                have hwr : IntKind.i64.wrap (x - 1) = x - 1 := IntWalk.i64_in _ (by omega)
                go_wp2
                go_quiet ((first | (go_at_call 152; exact quiet_ (l00Word_call _ _ _ HN.out)) | (go_at_call 82; exact quiet_ (l01In_call _ _ _ _ _ HV.out))))
                clear hwr
                go_wp2
                go_ret
                exact ⟨by rw [E1.out]; rfl, drawn_then HD.out (drawn_q _)⟩
              | true =>
                have HS := Aside0.mk hS
                have E1 := Aside0.mk (show entAt l0 x.toNat = true by rw [E0.out, entB, HN.out, HV.out, HS.out]; simp)
                have hS1 : Op.bytesLess (rd_T51 l0 (x - 1)).f0.toList (rd_T51 l0 x).f0.toList = true := hS
                clear hS
                have p1 : 0 ≤ x - 1 := by omega
                have p2 : x - 1 < (l0.length : Int) := by omega
                have p3 : 1 ≤ x := by omega
                have hwr : IntKind.i64.wrap (x - 1) = x - 1 := IntWalk.i64_in _ (by omega)
                go_wp2
                go_quiet ((first | (go_at_call 152; exact quiet_ (l00Word_call _ _ _ HN.out)) | (go_at_call 82; exact quiet_ (l01In_call _ _ _ _ _ HV.out))))
                clear hwr
                go_wp2
                go_roundg (l0.length - (x.toNat + 1))
                case measure => omega
                case rel => exact ⟨x + 1, by go_num, by omega, by omega, by omega, ⟨fun j hj => by
                  by_cases e : j = x.toNat
                  · rw [e]; exact E1.out
                  · exact HA.out j (by omega)⟩, ⟨drawn_then HD.out (drawn_q _)⟩⟩
            · have h2 : (x.toNat == 0) = true := by simp; omega
              have E1 := Aside0.mk (show entAt l0 x.toNat = true by rw [E0.out, entB, HN.out, HV.out, h2]; rfl)
              clear h2
              have p0 : decide (0 < x) = false := decide_eq_false hpos
              go_wp2
              go_quiet ((first | (go_at_call 152; exact quiet_ (l00Word_call _ _ _ HN.out)) | (go_at_call 82; exact quiet_ (l01In_call _ _ _ _ _ HV.out))))
              go_wp2
              go_roundg (l0.length - (x.toNat + 1))
              case measure => omega
              case rel => exact ⟨x + 1, by go_num, by omega, by omega, by omega, ⟨fun j hj => by
                obtain rfl : j = x.toNat := by omega
                exact E1.out⟩, ⟨drawn_then HD.out (drawn_q _)⟩⟩
      · have E1 := Aside0.mk (show mapB l0 = true by rw [← RT.out]; exact allR_true (fun j hj => HA.out j (by omega)))
        obtain rfl : x = (l0.length : Int) := by omega
        go_wp2
        go_ret
        exact ⟨by rw [E1.out]; rfl, HD.out⟩
  · have RT := Aside0.mk (show false = mapB l0 by simp [mapB, hlen])
    go_enter Try.func96, Try.ntmps96
    go_wp2
    go_ret
    exact ⟨by rw [← RT.out]; rfl, Drawn0.refl _⟩
end Go.Proofs.Ytcpljigliklgcaa.Q
end

section
namespace Go.Proofs.Ytcpljigliklgcaa.Q
open Go.RowKit Go.Proofs.YtcpljigliklgcaaW.PrintWords Go.Proofs.YtcpljigliklgcaaW.PrintLast Go.Proofs.YtcpljigliklgcaaW.PrintMore
attribute [local go_sem] max2_int min2_int max_two min_two max_three min_three max_four min_four   -- for this text's walks alone
set_option linter.unusedVariables false
set_option linter.unusedSimpArgs false
attribute [local go_sem] bin_leq bin_gtr bin_geq
mutual
def spec_l03Commit.j0 : Nat → List (S118) → Int → Bool → List Int → List (S51) → Option (Bool)
 | 0, _, _, _, _, _ => none
 | k + 1, x0, x5, x25, x542000, x542001 => if x25 = true then (some false) else (spec_l03Commit.l0 k x0 x5 0 x542000 x542001)
def spec_l03Commit.l0 : Nat → List (S118) → Int → Int → List Int → List (S51) → Option (Bool)
 | 0, _, _, _, _, _ => none
 | k + 1, x0, x5, x6, x542000, x542001 => if x6 < x5 then (if 0 ≤ x6 then (if x6 < (x542000.length : Int) then ((spec_l01In.f (rd x542000 x6) 1 (x0.length : Int)).bind fun t544 => (if t544 = true then (if x6 > 0 then (if 0 < (x542000.length : Int) then (if (rd x542000 x6) = (rd x542000 0) then (some false) else (spec_l03Commit.l0 k x0 x5 (wrap64 (x6 + 1)) x542000 x542001)) else (none)) else (spec_l03Commit.l0 k x0 x5 (wrap64 (x6 + 1)) x542000 x542001)) else (some false))) else (none)) else (none)) else (some true)
end
def spec_l03Commit.f (k : Nat) (l0 : List (S118)) (l1_0 : List Int) (l1_1 : List (S51)) : Option (Bool) := (spec_l01OK.f l1_1).bind fun t542 => (if t542 = true then (if (l1_0.length : Int) > 2 then (spec_l03Commit.j0 k l0 (l1_0.length : Int) true l1_0 l1_1) else (spec_l03Commit.j0 k l0 (l1_0.length : Int) (((l1_0.length : Int) == 0) != ((l0.length : Int) == 0)) l1_0 l1_1)) else (spec_l03Commit.j0 k l0 (l1_0.length : Int) true l1_0 l1_1))
set_option maxHeartbeats 8000000 in
set_option maxRecDepth 100000 in
theorem spec_l03Commit.calls (k : Nat) (A0 : Option Addr) (c0 : Nat) (l0 : List (S118)) (A1_0 : Option Addr) (c1_0 : Nat) (l1_0 : List Int) (A1_1 : Option Addr) (c1_1 : Nat) (l1_1 : List (S51)) (r : Bool) (w : World) (hr0 : Kd.C k118 w A0 l0.length l0) (hc0 : l0.length ≤ c0) (hr1_0 : Kd.C (Kd.int .i64) w A1_0 l1_0.length l1_0) (hc1_0 : l1_0.length ≤ c1_0) (hr1_1 : Kd.C k51 w A1_1 l1_1.length l1_1) (hc1_1 : l1_1.length ≤ c1_1) (h : spec_l03Commit.f k l0 l1_0 l1_1 = some r) :
  Calls Try.prog 240 #[.slice A0 l0.length c0, .agg #[.slice A1_0 l1_0.length c1_0, .slice A1_1 l1_1.length c1_1]] w fun e w' => e = .returned (.bool r) ∧ Below w.heap.size w w' := by
 have hu118 := Try.underlying118
 have HR0 := Aside0.mk hr0
 have HC0 := Aside0.mk hc0
 clear hr0 hc0
 have HR1_0 := Aside0.mk hr1_0
 have HC1_0 := Aside0.mk hc1_0
 clear hr1_0 hc1_0
 have HR1_1 := Aside0.mk hr1_1
 have HC1_1 := Aside0.mk hc1_1
 clear hr1_1 hc1_1
 have HB := Aside0.mk (Below.refl w.heap.size w)
 have H : ((spec_l01OK.f l1_1).bind fun t542 => (if t542 = true then (if (l1_0.length : Int) > 2 then (spec_l03Commit.j0 k l0 (l1_0.length : Int) true l1_0 l1_1) else (spec_l03Commit.j0 k l0 (l1_0.length : Int) (((l1_0.length : Int) == 0) != ((l0.length : Int) == 0)) l1_0 l1_1)) else (spec_l03Commit.j0 k l0 (l1_0.length : Int) true l1_0 l1_1))) = some r := h
 clear h
 have HC3 := Aside0.mk H
 clear H
 go_enter Try.func240, Try.ntmps240
 go_upto_region 2 with (first | ((with_reducible refine gate_dst (N := 3) rfl ?_); (try (refine gate_guard (by rfl) ?_; dsimp only)); refine bE (N := 3) (cs := #[.slice A1_0 l1_0.length c1_0, .slice A1_1 l1_1.length c1_1]) (t := 118) ?_; intro gb541 hg w4 hbox hb; have n0_ := Aside0.mk (below_step (w := w) bW hb); have n1_ := Aside0.mk (hbox); have n2_ := Aside0.mk (gS (w := w) hg); have n3_ := n2_; clear HB; have HB := n0_; have BK541 := n1_; have GW541 := n2_; have GE541 := n3_; clear n0_ n1_ n2_ n3_; clear hb hbox hg; obtain ⟨hcz5_0, hcz5_1⟩ := cz2 BK541; obtain ⟨hfz5_0, hfz5_1⟩ := fz2 BK541))
 repeat (go_quiet (first | ((with_reducible refine gate_dst (N := 3) rfl ?_); (try (refine gate_guard (by rfl) ?_; dsimp only)); refine bE (N := 3) (cs := #[.slice A1_0 l1_0.length c1_0, .slice A1_1 l1_1.length c1_1]) (t := 118) ?_; intro gb541 hg w4 hbox hb; have n0_ := Aside0.mk (below_step (w := w) bW hb); have n1_ := Aside0.mk (hbox); have n2_ := Aside0.mk (gS (w := w) hg); have n3_ := n2_; clear HB; have HB := n0_; have BK541 := n1_; have GW541 := n2_; have GE541 := n3_; clear n0_ n1_ n2_ n3_; clear hb hbox hg; obtain ⟨hcz5_0, hcz5_1⟩ := cz2 BK541; obtain ⟨hfz5_0, hfz5_1⟩ := fz2 BK541)); go_upto_region 2 with (first | ((with_reducible refine gate_dst (N := 3) rfl ?_); (try (refine gate_guard (by rfl) ?_; dsimp only)); refine bE (N := 3) (cs := #[.slice A1_0 l1_0.length c1_0, .slice A1_1 l1_1.length c1_1]) (t := 118) ?_; intro gb541 hg w4 hbox hb; have n0_ := Aside0.mk (below_step (w := w) bW hb); have n1_ := Aside0.mk (hbox); have n2_ := Aside0.mk (gS (w := w) hg); have n3_ := n2_; clear HB; have HB := n0_; have BK541 := n1_; have GW541 := n2_; have GE541 := n3_; clear n0_ n1_ n2_ n3_; clear hb hbox hg; obtain ⟨hcz5_0, hcz5_1⟩ := cz2 BK541; obtain ⟨hfz5_0, hfz5_1⟩ := fz2 BK541)))
 (try simp only [Act.put, List.setIfInBounds_toArray, List.set_cons_zero, List.set_cons_succ])
 go_cut [25] (fun v25 wc => ∃ (kq : Nat) (x25_2 : Bool), v25 = .bool x25_2 ∧ Aside0 (spec_l03Commit.j0 kq l0 (l1_0.length : Int) x25_2 l1_0 l1_1 = some r) ∧ Aside0 (kq ≤ k) ∧ Aside0 (wc.heap[gb541]? = some (.cells #[(.slice A1_0 l1_0.length c1_0), (.slice A1_1 l1_1.length c1_1)] 118 (0, 0))) ∧ Aside0 (Below w.heap.size w wc))
 case first =>
  have H := HC3.out
  clear HC3
  replace H := Option.bind_eq_some_iff.mp H
  obtain ⟨t542, A60, H⟩ := H
  replace H : (if t542 = true then (if (l1_0.length : Int) > 2 then (spec_l03Commit.j0 k l0 (l1_0.length : Int) true l1_0 l1_1) else (spec_l03Commit.j0 k l0 (l1_0.length : Int) (((l1_0.length : Int) == 0) != ((l0.length : Int) == 0)) l1_0 l1_1)) else (spec_l03Commit.j0 k l0 (l1_0.length : Int) true l1_0 l1_1)) = some r := H
  have A6 := Aside0.mk A60
  clear A60
  by_cases c7 : t542 = true
  ·subst c7
   have H1 : (if (l1_0.length : Int) > 2 then (spec_l03Commit.j0 k l0 (l1_0.length : Int) true l1_0 l1_1) else (spec_l03Commit.j0 k l0 (l1_0.length : Int) (((l1_0.length : Int) == 0) != ((l0.length : Int) == 0)) l1_0 l1_1)) = some r := by rw [if_pos rfl] at H; exact H
   clear H
   have H := H1
   clear H1
   by_cases c8 : (l1_0.length : Int) > 2
   ·rw [if_pos c8] at H
    have c8b0 : decide (2 < (l1_0.length : Int)) = true := decide_eq_true c8
    have c8b1 : decide (2 < l1_0.length) = true := decide_eq_true (by omega)
    clear c8
    (first | rw [c8b0] | (simp only [i64_w, i32_w]; rw [c8b0]) | skip)
    have H' := Aside0.mk H
    clear H
    have hcz9_0 : w4.cell? ⟨gb541, 0, none⟩ = some (.slice A1_0 l1_0.length c1_0) := (blk_cell BK541.out 0).trans rfl
    have hcz9_1 : w4.cell? ⟨gb541, 1, none⟩ = some (.slice A1_1 l1_1.length c1_1) := (blk_cell BK541.out 1).trans rfl
    have hfz9_0 := blk_frozen BK541.out 0
    have hfz9_1 := blk_frozen BK541.out 1
    go_wp2_with (first | (go_at_call 96; (with_reducible refine (spec_l01OK.calls _ _ l1_1 true _ ?side1 ?side2 A6.out).mono ?_); (case side1 => exact cB HR1_1); (case side2 => exact HC1_1.out); rintro e w' ⟨rfl, ⟨nd, rfl⟩⟩; (try first | exact ⟨rfl, _, World.drewN_drewN _ _ _⟩ | exact ⟨rfl, _, Eq.trans (World.drewN_drewN _ _ _) (congrArg (World.drewN _) (Nat.add_assoc _ _ _))⟩)))
    repeat (go_quiet (first | (go_at_call 96; (with_reducible refine (spec_l01OK.calls _ _ l1_1 true _ ?side1 ?side2 A6.out).mono ?_); (case side1 => exact cB HR1_1); (case side2 => exact HC1_1.out); rintro e w' ⟨rfl, ⟨nd, rfl⟩⟩; (try first | exact ⟨rfl, _, World.drewN_drewN _ _ _⟩ | exact ⟨rfl, _, Eq.trans (World.drewN_drewN _ _ _) (congrArg (World.drewN _) (Nat.add_assoc _ _ _))⟩))); try go_wp2_with (first | (go_at_call 96; (with_reducible refine (spec_l01OK.calls _ _ l1_1 true _ ?side1 ?side2 A6.out).mono ?_); (case side1 => exact cB HR1_1); (case side2 => exact HC1_1.out); rintro e w' ⟨rfl, ⟨nd, rfl⟩⟩; (try first | exact ⟨rfl, _, World.drewN_drewN _ _ _⟩ | exact ⟨rfl, _, Eq.trans (World.drewN_drewN _ _ _) (congrArg (World.drewN _) (Nat.add_assoc _ _ _))⟩))))
    go_meet
    case rel => exact ⟨_, (true), vE, H', ⟨by first | omega | exact Nat.le_refl _⟩, ⟨by (with_reducible repeat (first | refine blk_drewN ?_ _ | refine blk_drew ?_ | refine blk_alloc ?_ _)); exact BK541.out⟩, ⟨bW⟩⟩
   ·rw [if_neg c8] at H
    have c8b0 : decide (2 < (l1_0.length : Int)) = false := decide_eq_false c8
    have c8b1 : decide (2 < l1_0.length) = false := decide_eq_false (by omega)
    clear c8
    (first | rw [c8b0] | (simp only [i64_w, i32_w]; rw [c8b0]) | skip)
    have H' := Aside0.mk H
    clear H
    have hcz10_0 : w4.cell? ⟨gb541, 0, none⟩ = some (.slice A1_0 l1_0.length c1_0) := (blk_cell BK541.out 0).trans rfl
    have hcz10_1 : w4.cell? ⟨gb541, 1, none⟩ = some (.slice A1_1 l1_1.length c1_1) := (blk_cell BK541.out 1).trans rfl
    have hfz10_0 := blk_frozen BK541.out 0
    have hfz10_1 := blk_frozen BK541.out 1
    go_wp2_with (first | (go_at_call 96; (with_reducible refine (spec_l01OK.calls _ _ l1_1 true _ ?side1 ?side2 A6.out).mono ?_); (case side1 => exact cB HR1_1); (case side2 => exact HC1_1.out); rintro e w' ⟨rfl, ⟨nd, rfl⟩⟩; (try first | exact ⟨rfl, _, World.drewN_drewN _ _ _⟩ | exact ⟨rfl, _, Eq.trans (World.drewN_drewN _ _ _) (congrArg (World.drewN _) (Nat.add_assoc _ _ _))⟩)))
    repeat (go_quiet (first | (go_at_call 96; (with_reducible refine (spec_l01OK.calls _ _ l1_1 true _ ?side1 ?side2 A6.out).mono ?_); (case side1 => exact cB HR1_1); (case side2 => exact HC1_1.out); rintro e w' ⟨rfl, ⟨nd, rfl⟩⟩; (try first | exact ⟨rfl, _, World.drewN_drewN _ _ _⟩ | exact ⟨rfl, _, Eq.trans (World.drewN_drewN _ _ _) (congrArg (World.drewN _) (Nat.add_assoc _ _ _))⟩))); try go_wp2_with (first | (go_at_call 96; (with_reducible refine (spec_l01OK.calls _ _ l1_1 true _ ?side1 ?side2 A6.out).mono ?_); (case side1 => exact cB HR1_1); (case side2 => exact HC1_1.out); rintro e w' ⟨rfl, ⟨nd, rfl⟩⟩; (try first | exact ⟨rfl, _, World.drewN_drewN _ _ _⟩ | exact ⟨rfl, _, Eq.trans (World.drewN_drewN _ _ _) (congrArg (World.drewN _) (Nat.add_assoc _ _ _))⟩))))
    go_meet
    case rel => exact ⟨_, ((((l1_0.length : Int) == 0) != ((l0.length : Int) == 0))), vE, H', ⟨by first | omega | exact Nat.le_refl _⟩, ⟨by (with_reducible repeat (first | refine blk_drewN ?_ _ | refine blk_drew ?_ | refine blk_alloc ?_ _)); exact BK541.out⟩, ⟨bW⟩⟩
  ·replace c7 := Bool.eq_false_iff.mpr c7
   subst c7
   have H1 : (spec_l03Commit.j0 k l0 (l1_0.length : Int) true l1_0 l1_1) = some r := by rw [if_neg (show ¬ (false = true) by decide)] at H; exact H
   clear H
   have H := H1
   clear H1
   have H' := Aside0.mk H
   clear H
   have hcz11_0 : w4.cell? ⟨gb541, 0, none⟩ = some (.slice A1_0 l1_0.length c1_0) := (blk_cell BK541.out 0).trans rfl
   have hcz11_1 : w4.cell? ⟨gb541, 1, none⟩ = some (.slice A1_1 l1_1.length c1_1) := (blk_cell BK541.out 1).trans rfl
   have hfz11_0 := blk_frozen BK541.out 0
   have hfz11_1 := blk_frozen BK541.out 1
   go_wp2_with (first | (go_at_call 96; (with_reducible refine (spec_l01OK.calls _ _ l1_1 false _ ?side1 ?side2 A6.out).mono ?_); (case side1 => exact cB HR1_1); (case side2 => exact HC1_1.out); rintro e w' ⟨rfl, ⟨nd, rfl⟩⟩; (try first | exact ⟨rfl, _, World.drewN_drewN _ _ _⟩ | exact ⟨rfl, _, Eq.trans (World.drewN_drewN _ _ _) (congrArg (World.drewN _) (Nat.add_assoc _ _ _))⟩)))
   repeat (go_quiet (first | (go_at_call 96; (with_reducible refine (spec_l01OK.calls _ _ l1_1 false _ ?side1 ?side2 A6.out).mono ?_); (case side1 => exact cB HR1_1); (case side2 => exact HC1_1.out); rintro e w' ⟨rfl, ⟨nd, rfl⟩⟩; (try first | exact ⟨rfl, _, World.drewN_drewN _ _ _⟩ | exact ⟨rfl, _, Eq.trans (World.drewN_drewN _ _ _) (congrArg (World.drewN _) (Nat.add_assoc _ _ _))⟩))); try go_wp2_with (first | (go_at_call 96; (with_reducible refine (spec_l01OK.calls _ _ l1_1 false _ ?side1 ?side2 A6.out).mono ?_); (case side1 => exact cB HR1_1); (case side2 => exact HC1_1.out); rintro e w' ⟨rfl, ⟨nd, rfl⟩⟩; (try first | exact ⟨rfl, _, World.drewN_drewN _ _ _⟩ | exact ⟨rfl, _, Eq.trans (World.drewN_drewN _ _ _) (congrArg (World.drewN _) (Nat.add_assoc _ _ _))⟩))))
   go_meet
   case rel => exact ⟨_, (true), vE, H', ⟨by first | omega | exact Nat.le_refl _⟩, ⟨by (with_reducible repeat (first | refine blk_drewN ?_ _ | refine blk_drew ?_ | refine blk_alloc ?_ _)); exact BK541.out⟩, ⟨bW⟩⟩
 case rest =>
  clear HC3
  try clear c1
  try clear c2
  try clear p2
  try clear c7
  try clear c8
  try clear c8b0
  try clear c8b1
  try clear hcz10_0
  try clear hcz10_1
  try clear hcz11_0
  try clear hcz11_1
  try clear hcz5_0
  try clear hcz5_1
  try clear hcz9_0
  try clear hcz9_1
  try clear hfz10_0
  try clear hfz10_1
  try clear hfz11_0
  try clear hfz11_1
  try clear hfz5_0
  try clear hfz5_1
  try clear hfz9_0
  try clear hfz9_1
  obtain ⟨kq, x25_2, rfl, HA, HJ2, BK541, HB⟩ := hcut
  cases kq with
  | zero => exact absurd HA.out (by simp [spec_l03Commit.j0])
  | succ kj2 =>
   have H := HA.out
   clear HA
   simp only [spec_l03Commit.j0] at H
   by_cases c12 : x25_2 = true
   ·subst c12
    have H1 : (some false) = some r := by rw [if_pos rfl] at H; exact H
    clear H
    have H := H1
    clear H1
    obtain rfl := Option.some.inj H
    go_wp2
    repeat (go_quiet (fail); try go_wp2)
    go_ret
    exact ⟨rE, bW⟩
   ·replace c12 := Bool.eq_false_iff.mpr c12
    subst c12
    have H1 : (spec_l03Commit.l0 kj2 l0 (l1_0.length : Int) 0 l1_0 l1_1) = some r := by rw [if_neg (show ¬ (false = true) by decide)] at H; exact H
    clear H
    have H := H1
    clear H1
    have H' := Aside0.mk H
    clear H
    go_wp2
    repeat (go_quiet (fail); try go_wp2)
    go_loopg [6] kj2 (fun kq v6 w' => ∃ (x6_2 : Int), v6 = .int .i64 x6_2 ∧ Aside0 (spec_l03Commit.l0 kq l0 (l1_0.length : Int) x6_2 l1_0 l1_1 = some r) ∧ Aside0 (kq ≤ kj2) ∧ Aside0 (w'.heap[gb541]? = some (.cells #[(.slice A1_0 l1_0.length c1_0), (.slice A1_1 l1_1.length c1_1)] 118 (0, 0))) ∧ Aside0 (Below w.heap.size w w'))
    case atStart => exact ⟨(0), vE, H', ⟨Nat.le_refl _⟩, ⟨by (with_reducible repeat (first | refine blk_drewN ?_ _ | refine blk_drew ?_ | refine blk_alloc ?_ _)); exact BK541.out⟩, ⟨bW⟩⟩
    case round =>
     clear H'
     try clear c1
     try clear c2
     try clear p2
     try clear c7
     try clear c8
     try clear c8b0
     try clear c8b1
     try clear c12
     try clear hcz10_0
     try clear hcz10_1
     try clear hcz11_0
     try clear hcz11_1
     try clear hcz5_0
     try clear hcz5_1
     try clear hcz9_0
     try clear hcz9_1
     try clear hfz10_0
     try clear hfz10_1
     try clear hfz11_0
     try clear hfz11_1
     try clear hfz5_0
     try clear hfz5_1
     try clear hfz9_0
     try clear hfz9_1
     try clear p2
     obtain ⟨x6_2, rfl, HA, HK2, BK541, HB⟩ := hrel
     cases gk with
     | zero => exact absurd HA.out (by simp [spec_l03Commit.l0])
     | succ k2 =>
      have H := HA.out
      clear HA
      simp only [spec_l03Commit.l0] at H
      by_cases c13 : x6_2 < (l1_0.length : Int)
      ·rw [if_pos c13] at H
       have c13b0 : decide (x6_2 < (l1_0.length : Int)) = true := decide_eq_true c13
       clear c13
       by_cases c14 : 0 ≤ x6_2
       ·rw [if_pos c14] at H
        have c14b0 : decide (0 ≤ x6_2) = true := decide_eq_true c14
        clear c14
        by_cases c15 : x6_2 < (l1_0.length : Int)
        ·rw [if_pos c15] at H
         have c15b0 : decide (x6_2 < (l1_0.length : Int)) = true := decide_eq_true c15
         clear c15
         replace H := Option.bind_eq_some_iff.mp H
         obtain ⟨t544, A160, H⟩ := H
         replace H : (if t544 = true then (if x6_2 > 0 then (if 0 < (l1_0.length : Int) then (if (rd l1_0 x6_2) = (rd l1_0 0) then (some false) else (spec_l03Commit.l0 k2 l0 (l1_0.length : Int) (wrap64 (x6_2 + 1)) l1_0 l1_1)) else (none)) else (spec_l03Commit.l0 k2 l0 (l1_0.length : Int) (wrap64 (x6_2 + 1)) l1_0 l1_1)) else (some false)) = some r := H
         have A16 := Aside0.mk A160
         clear A160
         by_cases c17 : t544 = true
         ·subst c17
          have H1 : (if x6_2 > 0 then (if 0 < (l1_0.length : Int) then (if (rd l1_0 x6_2) = (rd l1_0 0) then (some false) else (spec_l03Commit.l0 k2 l0 (l1_0.length : Int) (wrap64 (x6_2 + 1)) l1_0 l1_1)) else (none)) else (spec_l03Commit.l0 k2 l0 (l1_0.length : Int) (wrap64 (x6_2 + 1)) l1_0 l1_1)) = some r := by rw [if_pos rfl] at H; exact H
          clear H
          have H := H1
          clear H1
          by_cases c18 : x6_2 > 0
          ·rw [if_pos c18] at H
           have c18b0 : decide (0 < x6_2) = true := decide_eq_true c18
           clear c18
           by_cases c19 : 0 < (l1_0.length : Int)
           ·rw [if_pos c19] at H
            have c19b0 : decide (0 < (l1_0.length : Int)) = true := decide_eq_true c19
            have c19b1 : decide (0 < l1_0.length) = true := decide_eq_true (by omega)
            clear c19
            by_cases c20 : (rd l1_0 x6_2) = (rd l1_0 0)
            ·rw [if_pos c20] at H
             have c20b0 : ((rd l1_0 x6_2) == (rd l1_0 0)) = true := beq_iff_eq.mpr c20
             have c20b1 : ((rd l1_0 x6_2) != (rd l1_0 0)) = false := bne_eq_false_iff_eq.mpr c20
             clear c20
             obtain rfl := Option.some.inj H
             have hcz21_0 : wr.cell? ⟨gb541, 0, none⟩ = some (.slice A1_0 l1_0.length c1_0) := (blk_cell BK541.out 0).trans rfl
             have hcz21_1 : wr.cell? ⟨gb541, 1, none⟩ = some (.slice A1_1 l1_1.length c1_1) := (blk_cell BK541.out 1).trans rfl
             have hfz21_0 := fz1 BK541
             have hfz21_1 := blk_frozen BK541.out 1
             have p543 : 0 ≤ (x6_2 : Int) := odt
             have q543 : x6_2 < (l1_0.length : Int) := odt
             obtain ⟨ad543, e543, hx543_0⟩ := Kd.at_int HR1_0.out x6_2 p543 q543
             cases e543
             replace hx543_0 := (HB.out.cell (World.block_lt_of_cell? w _ hx543_0)).trans hx543_0
             replace p543 := eq_true p543
             replace q543 := eq_true q543
             go_wp2_with (first | (go_at_call 82; (with_reducible refine (spec_l01In.calls (rd l1_0 x6_2) 1 (l0.length : Int) true _ A16.out).mono ?_); rintro e w' ⟨rfl, ⟨nd, rfl⟩⟩; (try first | exact ⟨rfl, _, World.drewN_drewN _ _ _⟩ | exact ⟨rfl, _, Eq.trans (World.drewN_drewN _ _ _) (congrArg (World.drewN _) (Nat.add_assoc _ _ _))⟩); have p545 : 0 ≤ (x6_2 : Int) := odt; have q545 : x6_2 < (l1_0.length : Int) := odt; obtain ⟨ad545, e545, hx545_0⟩ := Kd.at_int HR1_0.out x6_2 p545 q545; obtain rfl : ad543 = ad545 := (by injection e545); replace hx545_0 := (HB.out.cell (World.block_lt_of_cell? w _ hx545_0)).trans hx545_0; replace p545 := eq_true p545; replace q545 := eq_true q545; have p546 : 0 ≤ (0 : Int) := (by omega); have q546 : 0 < (l1_0.length : Int) := odt; obtain ⟨ad546, e546, hx546_0⟩ := Kd.at_int HR1_0.out 0 p546 q546; obtain rfl : ad543 = ad546 := (by injection e546); have qi546 : (0 < l1_0.length) = True := eq_true (by omega); (try rw [show ((0 : Int)).toNat = 0 from rfl] at hx546_0); (try rw [Addr.add_zero'] at hx546_0); replace hx546_0 := (HB.out.cell (World.block_lt_of_cell? w _ hx546_0)).trans hx546_0; replace p546 := eq_true p546; replace q546 := eq_true q546))
             repeat (go_quiet (first | (go_at_call 82; (with_reducible refine (spec_l01In.calls (rd l1_0 x6_2) 1 (l0.length : Int) true _ A16.out).mono ?_); rintro e w' ⟨rfl, ⟨nd, rfl⟩⟩; (try first | exact ⟨rfl, _, World.drewN_drewN _ _ _⟩ | exact ⟨rfl, _, Eq.trans (World.drewN_drewN _ _ _) (congrArg (World.drewN _) (Nat.add_assoc _ _ _))⟩); have p545 : 0 ≤ (x6_2 : Int) := odt; have q545 : x6_2 < (l1_0.length : Int) := odt; obtain ⟨ad545, e545, hx545_0⟩ := Kd.at_int HR1_0.out x6_2 p545 q545; obtain rfl : ad543 = ad545 := (by injection e545); replace hx545_0 := (HB.out.cell (World.block_lt_of_cell? w _ hx545_0)).trans hx545_0; replace p545 := eq_true p545; replace q545 := eq_true q545; have p546 : 0 ≤ (0 : Int) := (by omega); have q546 : 0 < (l1_0.length : Int) := odt; obtain ⟨ad546, e546, hx546_0⟩ := Kd.at_int HR1_0.out 0 p546 q546; obtain rfl : ad543 = ad546 := (by injection e546); have qi546 : (0 < l1_0.length) = True := eq_true (by omega); (try rw [show ((0 : Int)).toNat = 0 from rfl] at hx546_0); (try rw [Addr.add_zero'] at hx546_0); replace hx546_0 := (HB.out.cell (World.block_lt_of_cell? w _ hx546_0)).trans hx546_0; replace p546 := eq_true p546; replace q546 := eq_true q546)); try go_wp2_with (first | (go_at_call 82; (with_reducible refine (spec_l01In.calls (rd l1_0 x6_2) 1 (l0.length : Int) true _ A16.out).mono ?_); rintro e w' ⟨rfl, ⟨nd, rfl⟩⟩; (try first | exact ⟨rfl, _, World.drewN_drewN _ _ _⟩ | exact ⟨rfl, _, Eq.trans (World.drewN_drewN _ _ _) (congrArg (World.drewN _) (Nat.add_assoc _ _ _))⟩); have p545 : 0 ≤ (x6_2 : Int) := odt; have q545 : x6_2 < (l1_0.length : Int) := odt; obtain ⟨ad545, e545, hx545_0⟩ := Kd.at_int HR1_0.out x6_2 p545 q545; obtain rfl : ad543 = ad545 := (by injection e545); replace hx545_0 := (HB.out.cell (World.block_lt_of_cell? w _ hx545_0)).trans hx545_0; replace p545 := eq_true p545; replace q545 := eq_true q545; have p546 : 0 ≤ (0 : Int) := (by omega); have q546 : 0 < (l1_0.length : Int) := odt; obtain ⟨ad546, e546, hx546_0⟩ := Kd.at_int HR1_0.out 0 p546 q546; obtain rfl : ad543 = ad546 := (by injection e546); have qi546 : (0 < l1_0.length) = True := eq_true (by omega); (try rw [show ((0 : Int)).toNat = 0 from rfl] at hx546_0); (try rw [Addr.add_zero'] at hx546_0); replace hx546_0 := (HB.out.cell (World.block_lt_of_cell? w _ hx546_0)).trans hx546_0; replace p546 := eq_true p546; replace q546 := eq_true q546)))
             go_ret
             exact ⟨rE, bW⟩
            ·rw [if_neg c20] at H
             have c20b0 : ((rd l1_0 x6_2) == (rd l1_0 0)) = false := beq_eq_false_iff_ne.mpr c20
             have c20b1 : ((rd l1_0 x6_2) != (rd l1_0 0)) = true := bne_iff_ne.mpr c20
             have H' := Aside0.mk H
             clear H
             have hcz22_0 : wr.cell? ⟨gb541, 0, none⟩ = some (.slice A1_0 l1_0.length c1_0) := (blk_cell BK541.out 0).trans rfl
             have hcz22_1 : wr.cell? ⟨gb541, 1, none⟩ = some (.slice A1_1 l1_1.length c1_1) := (blk_cell BK541.out 1).trans rfl
             have hfz22_0 := fz1 BK541
             have hfz22_1 := blk_frozen BK541.out 1
             have p543 : 0 ≤ (x6_2 : Int) := odt
             have q543 : x6_2 < (l1_0.length : Int) := odt
             obtain ⟨ad543, e543, hx543_0⟩ := Kd.at_int HR1_0.out x6_2 p543 q543
             cases e543
             replace hx543_0 := (HB.out.cell (World.block_lt_of_cell? w _ hx543_0)).trans hx543_0
             replace p543 := eq_true p543
             replace q543 := eq_true q543
             go_wp2_with (first | (go_at_call 82; (with_reducible refine (spec_l01In.calls (rd l1_0 x6_2) 1 (l0.length : Int) true _ A16.out).mono ?_); rintro e w' ⟨rfl, ⟨nd, rfl⟩⟩; (try first | exact ⟨rfl, _, World.drewN_drewN _ _ _⟩ | exact ⟨rfl, _, Eq.trans (World.drewN_drewN _ _ _) (congrArg (World.drewN _) (Nat.add_assoc _ _ _))⟩); have p545 : 0 ≤ (x6_2 : Int) := odt; have q545 : x6_2 < (l1_0.length : Int) := odt; obtain ⟨ad545, e545, hx545_0⟩ := Kd.at_int HR1_0.out x6_2 p545 q545; obtain rfl : ad543 = ad545 := (by injection e545); replace hx545_0 := (HB.out.cell (World.block_lt_of_cell? w _ hx545_0)).trans hx545_0; replace p545 := eq_true p545; replace q545 := eq_true q545; have p546 : 0 ≤ (0 : Int) := (by omega); have q546 : 0 < (l1_0.length : Int) := odt; obtain ⟨ad546, e546, hx546_0⟩ := Kd.at_int HR1_0.out 0 p546 q546; obtain rfl : ad543 = ad546 := (by injection e546); have qi546 : (0 < l1_0.length) = True := eq_true (by omega); (try rw [show ((0 : Int)).toNat = 0 from rfl] at hx546_0); (try rw [Addr.add_zero'] at hx546_0); replace hx546_0 := (HB.out.cell (World.block_lt_of_cell? w _ hx546_0)).trans hx546_0; replace p546 := eq_true p546; replace q546 := eq_true q546))
             repeat (go_quiet (first | (go_at_call 82; (with_reducible refine (spec_l01In.calls (rd l1_0 x6_2) 1 (l0.length : Int) true _ A16.out).mono ?_); rintro e w' ⟨rfl, ⟨nd, rfl⟩⟩; (try first | exact ⟨rfl, _, World.drewN_drewN _ _ _⟩ | exact ⟨rfl, _, Eq.trans (World.drewN_drewN _ _ _) (congrArg (World.drewN _) (Nat.add_assoc _ _ _))⟩); have p545 : 0 ≤ (x6_2 : Int) := odt; have q545 : x6_2 < (l1_0.length : Int) := odt; obtain ⟨ad545, e545, hx545_0⟩ := Kd.at_int HR1_0.out x6_2 p545 q545; obtain rfl : ad543 = ad545 := (by injection e545); replace hx545_0 := (HB.out.cell (World.block_lt_of_cell? w _ hx545_0)).trans hx545_0; replace p545 := eq_true p545; replace q545 := eq_true q545; have p546 : 0 ≤ (0 : Int) := (by omega); have q546 : 0 < (l1_0.length : Int) := odt; obtain ⟨ad546, e546, hx546_0⟩ := Kd.at_int HR1_0.out 0 p546 q546; obtain rfl : ad543 = ad546 := (by injection e546); have qi546 : (0 < l1_0.length) = True := eq_true (by omega); (try rw [show ((0 : Int)).toNat = 0 from rfl] at hx546_0); (try rw [Addr.add_zero'] at hx546_0); replace hx546_0 := (HB.out.cell (World.block_lt_of_cell? w _ hx546_0)).trans hx546_0; replace p546 := eq_true p546; replace q546 := eq_true q546)); try go_wp2_with (first | (go_at_call 82; (with_reducible refine (spec_l01In.calls (rd l1_0 x6_2) 1 (l0.length : Int) true _ A16.out).mono ?_); rintro e w' ⟨rfl, ⟨nd, rfl⟩⟩; (try first | exact ⟨rfl, _, World.drewN_drewN _ _ _⟩ | exact ⟨rfl, _, Eq.trans (World.drewN_drewN _ _ _) (congrArg (World.drewN _) (Nat.add_assoc _ _ _))⟩); have p545 : 0 ≤ (x6_2 : Int) := odt; have q545 : x6_2 < (l1_0.length : Int) := odt; obtain ⟨ad545, e545, hx545_0⟩ := Kd.at_int HR1_0.out x6_2 p545 q545; obtain rfl : ad543 = ad545 := (by injection e545); replace hx545_0 := (HB.out.cell (World.block_lt_of_cell? w _ hx545_0)).trans hx545_0; replace p545 := eq_true p545; replace q545 := eq_true q545; have p546 : 0 ≤ (0 : Int) := (by omega); have q546 : 0 < (l1_0.length : Int) := odt; obtain ⟨ad546, e546, hx546_0⟩ := Kd.at_int HR1_0.out 0 p546 q546; obtain rfl : ad543 = ad546 := (by injection e546); have qi546 : (0 < l1_0.length) = True := eq_true (by omega); (try rw [show ((0 : Int)).toNat = 0 from rfl] at hx546_0); (try rw [Addr.add_zero'] at hx546_0); replace hx546_0 := (HB.out.cell (World.block_lt_of_cell? w _ hx546_0)).trans hx546_0; replace p546 := eq_true p546; replace q546 := eq_true q546)))
             go_roundg k2
             case measure => have := HJ2.out; have := HK2.out; omega
             case rel => exact ⟨(wrap64 (x6_2 + 1)), vE, H', ⟨by have := HJ2.out; have := HK2.out; omega⟩, ⟨by (with_reducible repeat (first | refine blk_drewN ?_ _ | refine blk_drew ?_ | refine blk_alloc ?_ _)); exact BK541.out⟩, ⟨bW⟩⟩
           ·rw [if_neg c19] at H
            exact absurd H (by simp)
          ·rw [if_neg c18] at H
           have c18b0 : decide (0 < x6_2) = false := decide_eq_false c18
           clear c18
           have H' := Aside0.mk H
           clear H
           have hcz23_0 : wr.cell? ⟨gb541, 0, none⟩ = some (.slice A1_0 l1_0.length c1_0) := (blk_cell BK541.out 0).trans rfl
           have hcz23_1 : wr.cell? ⟨gb541, 1, none⟩ = some (.slice A1_1 l1_1.length c1_1) := (blk_cell BK541.out 1).trans rfl
           have hfz23_0 := fz1 BK541
           have hfz23_1 := blk_frozen BK541.out 1
           have p543 : 0 ≤ (x6_2 : Int) := odt
           have q543 : x6_2 < (l1_0.length : Int) := odt
           obtain ⟨ad543, e543, hx543_0⟩ := Kd.at_int HR1_0.out x6_2 p543 q543
           cases e543
           replace hx543_0 := (HB.out.cell (World.block_lt_of_cell? w _ hx543_0)).trans hx543_0
           replace p543 := eq_true p543
           replace q543 := eq_true q543
           go_wp2_with (first | (go_at_call 82; (with_reducible refine (spec_l01In.calls (rd l1_0 x6_2) 1 (l0.length : Int) true _ A16.out).mono ?_); rintro e w' ⟨rfl, ⟨nd, rfl⟩⟩; (try first | exact ⟨rfl, _, World.drewN_drewN _ _ _⟩ | exact ⟨rfl, _, Eq.trans (World.drewN_drewN _ _ _) (congrArg (World.drewN _) (Nat.add_assoc _ _ _))⟩)))
           repeat (go_quiet (first | (go_at_call 82; (with_reducible refine (spec_l01In.calls (rd l1_0 x6_2) 1 (l0.length : Int) true _ A16.out).mono ?_); rintro e w' ⟨rfl, ⟨nd, rfl⟩⟩; (try first | exact ⟨rfl, _, World.drewN_drewN _ _ _⟩ | exact ⟨rfl, _, Eq.trans (World.drewN_drewN _ _ _) (congrArg (World.drewN _) (Nat.add_assoc _ _ _))⟩))); try go_wp2_with (first | (go_at_call 82; (with_reducible refine (spec_l01In.calls (rd l1_0 x6_2) 1 (l0.length : Int) true _ A16.out).mono ?_); rintro e w' ⟨rfl, ⟨nd, rfl⟩⟩; (try first | exact ⟨rfl, _, World.drewN_drewN _ _ _⟩ | exact ⟨rfl, _, Eq.trans (World.drewN_drewN _ _ _) (congrArg (World.drewN _) (Nat.add_assoc _ _ _))⟩))))
           go_roundg k2
           case measure => have := HJ2.out; have := HK2.out; omega
           case rel => exact ⟨(wrap64 (x6_2 + 1)), vE, H', ⟨by have := HJ2.out; have := HK2.out; omega⟩, ⟨by (with_reducible repeat (first | refine blk_drewN ?_ _ | refine blk_drew ?_ | refine blk_alloc ?_ _)); exact BK541.out⟩, ⟨bW⟩⟩
         ·replace c17 := Bool.eq_false_iff.mpr c17
          subst c17
          have H1 : (some false) = some r := by rw [if_neg (show ¬ (false = true) by decide)] at H; exact H
          clear H
          have H := H1
          clear H1
          obtain rfl := Option.some.inj H
          have hcz24_0 : wr.cell? ⟨gb541, 0, none⟩ = some (.slice A1_0 l1_0.length c1_0) := (blk_cell BK541.out 0).trans rfl
          have hcz24_1 : wr.cell? ⟨gb541, 1, none⟩ = some (.slice A1_1 l1_1.length c1_1) := (blk_cell BK541.out 1).trans rfl
          have hfz24_0 := blk_frozen BK541.out 0
          have hfz24_1 := blk_frozen BK541.out 1
          have p543 : 0 ≤ (x6_2 : Int) := odt
          have q543 : x6_2 < (l1_0.length : Int) := odt
          obtain ⟨ad543, e543, hx543_0⟩ := Kd.at_int HR1_0.out x6_2 p543 q543
          cases e543
          replace hx543_0 := (HB.out.cell (World.block_lt_of_cell? w _ hx543_0)).trans hx543_0
          replace p543 := eq_true p543
          replace q543 := eq_true q543
          go_wp2_with (first | (go_at_call 82; (with_reducible refine (spec_l01In.calls (rd l1_0 x6_2) 1 (l0.length : Int) false _ A16.out).mono ?_); rintro e w' ⟨rfl, ⟨nd, rfl⟩⟩; (try first | exact ⟨rfl, _, World.drewN_drewN _ _ _⟩ | exact ⟨rfl, _, Eq.trans (World.drewN_drewN _ _ _) (congrArg (World.drewN _) (Nat.add_assoc _ _ _))⟩)))
          repeat (go_quiet (first | (go_at_call 82; (with_reducible refine (spec_l01In.calls (rd l1_0 x6_2) 1 (l0.length : Int) false _ A16.out).mono ?_); rintro e w' ⟨rfl, ⟨nd, rfl⟩⟩; (try first | exact ⟨rfl, _, World.drewN_drewN _ _ _⟩ | exact ⟨rfl, _, Eq.trans (World.drewN_drewN _ _ _) (congrArg (World.drewN _) (Nat.add_assoc _ _ _))⟩))); try go_wp2_with (first | (go_at_call 82; (with_reducible refine (spec_l01In.calls (rd l1_0 x6_2) 1 (l0.length : Int) false _ A16.out).mono ?_); rintro e w' ⟨rfl, ⟨nd, rfl⟩⟩; (try first | exact ⟨rfl, _, World.drewN_drewN _ _ _⟩ | exact ⟨rfl, _, Eq.trans (World.drewN_drewN _ _ _) (congrArg (World.drewN _) (Nat.add_assoc _ _ _))⟩))))
          go_ret
          exact ⟨rE, bW⟩
        ·rw [if_neg c15] at H
         exact absurd H (by simp)
       ·rw [if_neg c14] at H
        exact absurd H (by simp)
      ·rw [if_neg c13] at H
       have c13b0 : decide (x6_2 < (l1_0.length : Int)) = false := decide_eq_false c13
       clear c13
       obtain rfl := Option.some.inj H
       go_wp2
       repeat (go_quiet (fail); try go_wp2)
       go_ret
       exact ⟨rE, bW⟩
end Go.Proofs.Ytcpljigliklgcaa.Q
end

section
namespace Go.Proofs.Ytcpljigliklgcaa.Q
open Go.RowKit Go.Proofs.YtcpljigliklgcaaW.PrintWords Go.Proofs.YtcpljigliklgcaaW.PrintLast Go.Proofs.YtcpljigliklgcaaW.PrintMore
attribute [local go_sem] max2_int min2_int max_two min_two max_three min_three max_four min_four   -- for this text's walks alone
set_option linter.unusedVariables false
set_option linter.unusedSimpArgs false
attribute [local go_sem] bin_leq bin_gtr bin_geq
def spec_l03OK.l0 : Nat → List (S118) → Int → Option (Bool)
 | 0, _, _ => none
 | k + 1, x0, x3 => if x3 < (x0.length : Int) then (if 0 ≤ x3 then (if x3 ≤ (x0.length : Int) then ((spec_l03Commit.f k (x0.take (x3 : Int).toNat) ((rd_T118 x0 x3).f0) ((rd_T118 x0 x3).f1)).bind fun t553 => (if t553 = true then (spec_l03OK.l0 k x0 (wrap64 (x3 + 1))) else (some false))) else (none)) else (none)) else (some true)
def spec_l03OK.f (k : Nat) (l0 : List (S118)) : Option (Bool) := (spec_l01In.f (l0.length : Int) 1 60).bind fun t547 => (if t547 = true then (spec_l03OK.l0 k l0 0) else (some false))
def spec_l03OK.T6 : Bool × List (List Nat × List Nat) := (true, [([], []), ([], []), ([0, 1], [0, 1]), ([], []), ([], []), ([3, 4], [3, 4]), ([5], [5]), ([2, 6], [2, 6]), ([7], [7])])
def spec_l03OK.B6 : List Nat := [0, 0, 3, 0, 0, 24, 56, 127, 255]
theorem spec_l03OK.tab6 : rtab .any (opsOf Try.f185 6) = spec_l03OK.T6 := by kernel_rfl
theorem spec_l03OK.bits6 : waitsOk spec_l03OK.T6.2 spec_l03OK.B6 = true := by kernel_rfl
set_option maxHeartbeats 8000000 in
set_option maxRecDepth 100000 in
theorem spec_l03OK.calls (k : Nat) (A0 : Option Addr) (c0 : Nat) (l0 : List (S118)) (r : Bool) (w : World) (hr0 : Kd.C k118 w A0 l0.length l0) (hc0 : l0.length ≤ c0) (h : spec_l03OK.f k l0 = some r) :
  Calls Try.prog 185 #[.slice A0 l0.length c0] w fun e w' => e = .returned (.bool r) ∧ Below w.heap.size w w' := by
 have hu118 := Try.underlying118
 have HR0 := Aside0.mk hr0
 have HC0 := Aside0.mk hc0
 clear hr0 hc0
 have HB := Aside0.mk (Below.refl w.heap.size w)
 have H : ((spec_l01In.f (l0.length : Int) 1 60).bind fun t547 => (if t547 = true then (spec_l03OK.l0 k l0 0) else (some false))) = some r := h
 clear h
 replace H := Option.bind_eq_some_iff.mp H
 obtain ⟨t547, A20, H⟩ := H
 replace H : (if t547 = true then (spec_l03OK.l0 k l0 0) else (some false)) = some r := H
 have A2 := Aside0.mk A20
 clear A20
 by_cases c3 : t547 = true
 ·subst c3
  have H1 : (spec_l03OK.l0 k l0 0) = some r := by rw [if_pos rfl] at H; exact H
  clear H
  have H := H1
  clear H1
  have H' := Aside0.mk H
  clear H
  go_enter Try.func185, Try.ntmps185
  go_wp2_with (first | ((with_reducible refine gate_callee (f := 82) rfl ?_); refine goesL_ (some 6) rfl rfl Try.func82 (by kernel_rfl) rfl #[.int .i64 (l0.length : Int), .int .i64 1, .int .i64 60] rfl gA ?_; (with_reducible refine (spec_l01In.calls (l0.length : Int) 1 60 true _ A2.out).mono ?_); rintro e w' ⟨rfl, ⟨nd, rfl⟩⟩; refine ⟨_, rfl, ?_⟩))
  go_loopg [3] k (fun kq v3 w' => ∃ (x3_1 : Int), v3 = .int .i64 x3_1 ∧ Aside0 (spec_l03OK.l0 kq l0 x3_1 = some r) ∧ Aside0 (kq ≤ k) ∧ Aside0 (Below w.heap.size w w'))
  case atStart => exact ⟨(0), vE, H', ⟨Nat.le_refl _⟩, ⟨bW⟩⟩
  case round =>
   clear H'
   try clear c1
   try clear p2
   try clear c3
   obtain ⟨x3_1, rfl, HA, HK1, HB⟩ := hrel
   cases gk with
   | zero => exact absurd HA.out (by simp [spec_l03OK.l0])
   | succ k1 =>
    have H := HA.out
    clear HA
    simp only [spec_l03OK.l0] at H
    by_cases c4 : x3_1 < (l0.length : Int)
    ·rw [if_pos c4] at H
     have c4b0 : decide (x3_1 < (l0.length : Int)) = true := decide_eq_true c4
     clear c4
     by_cases c5 : 0 ≤ x3_1
     ·rw [if_pos c5] at H
      have c5b0 := eq_true c5
      have c5b1 : decide (0 ≤ x3_1) = true := decide_eq_true c5
      clear c5
      by_cases c6 : x3_1 ≤ (l0.length : Int)
      ·rw [if_pos c6] at H
       have c6b0 := eq_true c6
       have c6b1 : decide (x3_1 ≤ (l0.length : Int)) = true := decide_eq_true c6
       clear c6
       obtain ⟨y548, hy548⟩ : ∃ y_ : List (S118), y_ = (l0.take (x3_1 : Int).toNat) := ⟨_, rfl⟩
       replace H : ((spec_l03Commit.f k1 y548 ((rd_T118 l0 x3_1).f0) ((rd_T118 l0 x3_1).f1)).bind fun t553 => (if t553 = true then (spec_l03OK.l0 k1 l0 (wrap64 (x3_1 + 1))) else (some false))) = some r := by first | (rw [hy548]; with_reducible exact H) | (have H2_ := (Option.bind_some _ _).symm.trans H; rw [hy548]; with_reducible exact H2_) | (have H2_ := (Option.bind_some _ _).symm.trans H; with_reducible exact H2_) | with_reducible exact H | (rw [hy548]; exact H) | exact H
       have Ny548 := Aside0.mk hy548
       clear hy548
       replace H := Option.bind_eq_some_iff.mp H
       obtain ⟨t553, A70, H⟩ := H
       replace H : (if t553 = true then (spec_l03OK.l0 k1 l0 (wrap64 (x3_1 + 1))) else (some false)) = some r := H
       have A7 := Aside0.mk A70
       clear A70
       by_cases c8 : t553 = true
       ·subst c8
        have H1 : (spec_l03OK.l0 k1 l0 (wrap64 (x3_1 + 1))) = some r := by rw [if_pos rfl] at H; exact H
        clear H
        have H := H1
        clear H1
        have H' := Aside0.mk H
        clear H
        try go_wp2
        have n0_ := Aside0.mk (below_drew1 HB.out)
        clear HB
        have HB := n0_
        clear n0_
        have q10 : (x3_1 : Int) ≤ ((l0.length : Int) : Int) := odt
        obtain ⟨i010, hi010, _, hsz10, _⟩ := info_parts info118
        have hroom10 : l0.length ≤ c0 := HC0.out
        have hC10 : Kd.C k118 _ A0 l0.length l0 := HR0.out
        have hcut10 := cut_to (P := Try.prog) 63 118 .i64 Try.underlying63 hi010 A0 l0.length c0 x3_1 (odt) q10 hroom10
        have hr10 := Kd.C_take (m := (x3_1 : Int).toNat) hC10 (by omega)
        have hy10 : y548.length = (x3_1 : Int).toNat := (by rw [Ny548.out, List.length_take]; omega)
        rw [← Ny548.out] at hr10
        rw [← hy10] at hcut10
        have HR551 := Aside0.mk hr10
        have HC551 := Aside0.mk (show y548.length ≤ c0 from by omega)
        clear hr10 hC10 hroom10 hi010 hsz10
        have KY10 := Aside0.mk hy10
        clear hy10
        replace q10 := eq_true q10
        have p552 : 0 ≤ (x3_1 : Int) := odt
        have q552 : x3_1 < (l0.length : Int) := odt
        obtain ⟨ad552, A552_0, c552_0, A552_1, c552_1, e552, hx552_0, hx552_1, hl552_0, hi552_0, hl552_1, hi552_1⟩ := at_T118 HR0.out x3_1 p552 q552
        have hw552_1 := hx552_1
        have hw552_0 := hx552_0
        cases e552
        replace hx552_0 := (HB.out.cell (World.block_lt_of_cell? w _ hx552_0)).trans hx552_0
        replace hx552_1 := (HB.out.cell (World.block_lt_of_cell? w _ hx552_1)).trans hx552_1
        have HR552_0 := Aside0.mk hi552_0
        have HC552_0 := Aside0.mk hl552_0
        clear hi552_0 hl552_0
        have HR552_1 := Aside0.mk hi552_1
        have HC552_1 := Aside0.mk hl552_1
        clear hi552_1 hl552_1
        replace p552 := eq_true p552
        replace q552 := eq_true q552
        refine start_ (n := 9) (S := fun w' => w'.cell? (ad552.add ((x3_1).toNat * 2)) = some (.slice A552_0 ((rd_T118 l0 x3_1).f0).length c552_0) ∧ w'.cell? ⟨(ad552.add ((x3_1).toNat * 2)).block, (ad552.add ((x3_1).toNat * 2)).off + 1, none⟩ = some (.slice A552_1 ((rd_T118 l0 x3_1).f1).length c552_1)) (ds := []) #[false, false, false, false, false, false, false, false, false] (by kernel_rfl) rfl rfl ⟨((HB.out.cell (World.block_lt_of_cell? w _ hw552_0)).trans hw552_0), ((HB.out.cell (World.block_lt_of_cell? w _ hw552_1)).trans hw552_1)⟩ (fun hHeld => ?_); refine with_tabW spec_l03OK.tab6 spec_l03OK.bits6 (fun HT_ HW_ => ?_)
        generalize wr.drew = w9 at HB HR551 HR552_0 HR552_1 hx552_0 hx552_1 hHeld ⊢
        refine pure_ (i := 0) (N := some 14) (v := ?_) (a' := ?_) #[true, false, false, false, false, false, false, false, false] rfl rfl (any_of HT_.out (by kernel_rfl)) (fun _ _ _ h => h) (Or.inl ⟨by rfl, ?_⟩) ?_ ?_
        rotate_left
        ·intro w'
         go_simp
         with_reducible rfl
        rotate_left
        ·simp only [Act.put, List.setIfInBounds_toArray, List.set_cons_zero, List.set_cons_succ, i64_w, i32_w]
         rfl
        refine pure_ (i := 1) (N := some 15) (v := ?_) (a' := ?_) #[true, true, false, false, false, false, false, false, false] rfl rfl (any_of HT_.out (by kernel_rfl)) (fun _ _ _ h => h) (Or.inl ⟨by rfl, ?_⟩) ?_ ?_
        rotate_left
        ·intro w'
         go_simp
         with_reducible rfl
        rotate_left
        ·simp only [Act.put, List.setIfInBounds_toArray, List.set_cons_zero, List.set_cons_succ, i64_w, i32_w]
         rfl
        refine pure_ (i := 2) (N := some 16) (v := ?_) (a' := ?_) #[true, true, true, false, false, false, false, false, false] rfl rfl (any_of HT_.out (by kernel_rfl)) (fun _ _ _ h => h) (Or.inl ⟨by rfl, ?_⟩) ?_ ?_
        rotate_left
        ·intro w'
         go_simp
         with_reducible rfl
        rotate_left
        ·simp only [Act.put, List.setIfInBounds_toArray, List.set_cons_zero, List.set_cons_succ, i64_w, i32_w]
         rfl
        refine pure_ (i := 3) (N := some 17) (v := ?_) (a' := ?_) #[true, true, true, true, false, false, false, false, false] rfl rfl (any_of HT_.out (by kernel_rfl)) (fun _ _ _ h => h) (Or.inl ⟨by rfl, ?_⟩) ?_ ?_
        rotate_left
        ·intro w'
         go_simp
         with_reducible rfl
        rotate_left
        ·simp only [Act.put, List.setIfInBounds_toArray, List.set_cons_zero, List.set_cons_succ, i64_w, i32_w]
         rfl
        refine pure_ (i := 4) (N := some 18) (v := ?_) (a' := ?_) #[true, true, true, true, true, false, false, false, false] rfl rfl (any_of HT_.out (by kernel_rfl)) (fun _ _ _ h => h) (Or.inl ⟨by rfl, ?_⟩) ?_ ?_
        rotate_left
        ·intro w'
         go_simp
         with_reducible rfl
        rotate_left
        ·simp only [Act.put, List.setIfInBounds_toArray, List.set_cons_zero, List.set_cons_succ, i64_w, i32_w]
         rfl
        refine pure_ (i := 5) (N := some 19) (v := ?_) (a' := ?_) #[true, true, true, true, true, true, false, false, false] rfl rfl (any_of HT_.out (by kernel_rfl)) (fun _ _ _ h => h) (Or.inl ⟨by rfl, ?_⟩) ?_ ?_
        rotate_left
        ·intro w'
         go_simp
         with_reducible rfl
        rotate_left
        ·simp only [Act.put, List.setIfInBounds_toArray, List.set_cons_zero, List.set_cons_succ, i64_w, i32_w]
         rfl
        refine take_ (i := 6) (N := some 20) (v := ?_) (a' := ?_) #[true, true, true, true, true, true, true, false, false] rfl rfl (take_ofW HT_.out HW_.out (by kernel_rfl)) (fun _ _ _ h => h) (Or.inl ⟨by rfl, ?_⟩) hHeld ?_ ?_
        rotate_left
        ·rintro w' ⟨s0, s1⟩
         go_simp
         with_reducible rfl
        rotate_left
        ·simp only [Act.put, List.setIfInBounds_toArray, List.set_cons_zero, List.set_cons_succ, i64_w, i32_w]
         rfl
        refine one_ (i := 7) (N := some 21) #[true, true, true, true, true, true, true, true, false] rfl rfl (one_of HT_.out (by kernel_rfl)) (by decide) (fun K hK => ?_)
        refine goes_ Try.func240 (by kernel_rfl) rfl #[.slice (some ad552) y548.length c0, .agg #[.slice A552_0 ((rd_T118 l0 x3_1).f0).length c552_0, .slice A552_1 ((rd_T118 l0 x3_1).f1).length c552_1]] (by rfl) rfl rfl gA ?_
        with_reducible refine (spec_l03Commit.calls k1 _ _ y548 _ _ ((rd_T118 l0 x3_1).f0) _ _ ((rd_T118 l0 x3_1).f1) true _ ?side1 ?side2 ?side3 ?side4 ?side5 ?side6 A7.out).mono ?_
        (case side1 => exact cB HR551)
        (case side2 => exact HC551.out)
        (case side3 => exact cB HR552_0)
        (case side4 => exact HC552_0.out)
        (case side5 => exact cB HR552_1)
        (case side6 => exact HC552_1.out)
        rintro e w11 ⟨rfl, hb⟩
        refine ⟨_, rfl, ?_⟩
        have n0_ := Aside0.mk (below_step (w := w) bW hb)
        clear HB
        have HB := n0_
        clear n0_
        (try clear hb)
        (try clear hb2)
        (try clear hk)
        (try clear hi)
        refine hK.out _ _ ⟨((HB.out.cell (World.block_lt_of_cell? w _ hw552_0)).trans hw552_0), ((HB.out.cell (World.block_lt_of_cell? w _ hw552_1)).trans hw552_1)⟩ (fun hHeld => ?_)
        clear hK K
        refine norm_ (a' := ?_) ?_ ?_
        rotate_left
        ·show Act.put _ (some 21) _ = _
         simp only [Act.put, List.setIfInBounds_toArray, List.set_cons_zero, List.set_cons_succ, i64_w, i32_w]
         rfl
        refine pure_ (i := 8) (N := some 22) (v := ?_) (a' := ?_) #[true, true, true, true, true, true, true, true, true] rfl rfl (any_of HT_.out (by kernel_rfl)) (fun _ _ _ h => h) (Or.inl ⟨by rfl, ?_⟩) ?_ ?_
        rotate_left
        ·intro w'
         go_simp
         with_reducible rfl
        rotate_left
        ·simp only [Act.put, List.setIfInBounds_toArray, List.set_cons_zero, List.set_cons_succ, i64_w, i32_w]
         rfl
        refine done_ (done_of HT_.out (by kernel_rfl)) ?_
        try go_wp2
        go_roundg k1
        case measure => have := HK1.out; omega
        case rel => exact ⟨(wrap64 (x3_1 + 1)), vE, H', ⟨by have := HK1.out; omega⟩, ⟨bW⟩⟩
       ·replace c8 := Bool.eq_false_iff.mpr c8
        subst c8
        have H1 : (some false) = some r := by rw [if_neg (show ¬ (false = true) by decide)] at H; exact H
        clear H
        have H := H1
        clear H1
        obtain rfl := Option.some.inj H
        try go_wp2
        have n0_ := Aside0.mk (below_drew1 HB.out)
        clear HB
        have HB := n0_
        clear n0_
        have q13 : (x3_1 : Int) ≤ ((l0.length : Int) : Int) := odt
        obtain ⟨i013, hi013, _, hsz13, _⟩ := info_parts info118
        have hroom13 : l0.length ≤ c0 := HC0.out
        have hC13 : Kd.C k118 _ A0 l0.length l0 := HR0.out
        have hcut13 := cut_to (P := Try.prog) 63 118 .i64 Try.underlying63 hi013 A0 l0.length c0 x3_1 (odt) q13 hroom13
        have hr13 := Kd.C_take (m := (x3_1 : Int).toNat) hC13 (by omega)
        have hy13 : y548.length = (x3_1 : Int).toNat := (by rw [Ny548.out, List.length_take]; omega)
        rw [← Ny548.out] at hr13
        rw [← hy13] at hcut13
        have HR551 := Aside0.mk hr13
        have HC551 := Aside0.mk (show y548.length ≤ c0 from by omega)
        clear hr13 hC13 hroom13 hi013 hsz13
        have KY13 := Aside0.mk hy13
        clear hy13
        replace q13 := eq_true q13
        have p552 : 0 ≤ (x3_1 : Int) := odt
        have q552 : x3_1 < (l0.length : Int) := odt
        obtain ⟨ad552, A552_0, c552_0, A552_1, c552_1, e552, hx552_0, hx552_1, hl552_0, hi552_0, hl552_1, hi552_1⟩ := at_T118 HR0.out x3_1 p552 q552
        have hw552_1 := hx552_1
        have hw552_0 := hx552_0
        cases e552
        replace hx552_0 := (HB.out.cell (World.block_lt_of_cell? w _ hx552_0)).trans hx552_0
        replace hx552_1 := (HB.out.cell (World.block_lt_of_cell? w _ hx552_1)).trans hx552_1
        have HR552_0 := Aside0.mk hi552_0
        have HC552_0 := Aside0.mk hl552_0
        clear hi552_0 hl552_0
        have HR552_1 := Aside0.mk hi552_1
        have HC552_1 := Aside0.mk hl552_1
        clear hi552_1 hl552_1
        replace p552 := eq_true p552
        replace q552 := eq_true q552
        refine start_ (n := 9) (S := fun w' => w'.cell? (ad552.add ((x3_1).toNat * 2)) = some (.slice A552_0 ((rd_T118 l0 x3_1).f0).length c552_0) ∧ w'.cell? ⟨(ad552.add ((x3_1).toNat * 2)).block, (ad552.add ((x3_1).toNat * 2)).off + 1, none⟩ = some (.slice A552_1 ((rd_T118 l0 x3_1).f1).length c552_1)) (ds := []) #[false, false, false, false, false, false, false, false, false] (by kernel_rfl) rfl rfl ⟨((HB.out.cell (World.block_lt_of_cell? w _ hw552_0)).trans hw552_0), ((HB.out.cell (World.block_lt_of_cell? w _ hw552_1)).trans hw552_1)⟩ (fun hHeld => ?_); refine with_tabW spec_l03OK.tab6 spec_l03OK.bits6 (fun HT_ HW_ => ?_)
        generalize wr.drew = w12 at HB HR551 HR552_0 HR552_1 hx552_0 hx552_1 hHeld ⊢
        refine pure_ (i := 0) (N := some 14) (v := ?_) (a' := ?_) #[true, false, false, false, false, false, false, false, false] rfl rfl (any_of HT_.out (by kernel_rfl)) (fun _ _ _ h => h) (Or.inl ⟨by rfl, ?_⟩) ?_ ?_
        rotate_left
        ·intro w'
         go_simp
         with_reducible rfl
        rotate_left
        ·simp only [Act.put, List.setIfInBounds_toArray, List.set_cons_zero, List.set_cons_succ, i64_w, i32_w]
         rfl
        refine pure_ (i := 1) (N := some 15) (v := ?_) (a' := ?_) #[true, true, false, false, false, false, false, false, false] rfl rfl (any_of HT_.out (by kernel_rfl)) (fun _ _ _ h => h) (Or.inl ⟨by rfl, ?_⟩) ?_ ?_
        rotate_left
        ·intro w'
         go_simp
         with_reducible rfl
        rotate_left
        ·simp only [Act.put, List.setIfInBounds_toArray, List.set_cons_zero, List.set_cons_succ, i64_w, i32_w]
         rfl
        refine pure_ (i := 2) (N := some 16) (v := ?_) (a' := ?_) #[true, true, true, false, false, false, false, false, false] rfl rfl (any_of HT_.out (by kernel_rfl)) (fun _ _ _ h => h) (Or.inl ⟨by rfl, ?_⟩) ?_ ?_
        rotate_left
        ·intro w'
         go_simp
         with_reducible rfl
        rotate_left
        ·simp only [Act.put, List.setIfInBounds_toArray, List.set_cons_zero, List.set_cons_succ, i64_w, i32_w]
         rfl
        refine pure_ (i := 3) (N := some 17) (v := ?_) (a' := ?_) #[true, true, true, true, false, false, false, false, false] rfl rfl (any_of HT_.out (by kernel_rfl)) (fun _ _ _ h => h) (Or.inl ⟨by rfl, ?_⟩) ?_ ?_
        rotate_left
        ·intro w'
         go_simp
         with_reducible rfl
        rotate_left
        ·simp only [Act.put, List.setIfInBounds_toArray, List.set_cons_zero, List.set_cons_succ, i64_w, i32_w]
         rfl
        refine pure_ (i := 4) (N := some 18) (v := ?_) (a' := ?_) #[true, true, true, true, true, false, false, false, false] rfl rfl (any_of HT_.out (by kernel_rfl)) (fun _ _ _ h => h) (Or.inl ⟨by rfl, ?_⟩) ?_ ?_
        rotate_left
        ·intro w'
         go_simp
         with_reducible rfl
        rotate_left
        ·simp only [Act.put, List.setIfInBounds_toArray, List.set_cons_zero, List.set_cons_succ, i64_w, i32_w]
         rfl
        refine pure_ (i := 5) (N := some 19) (v := ?_) (a' := ?_) #[true, true, true, true, true, true, false, false, false] rfl rfl (any_of HT_.out (by kernel_rfl)) (fun _ _ _ h => h) (Or.inl ⟨by rfl, ?_⟩) ?_ ?_
        rotate_left
        ·intro w'
         go_simp
         with_reducible rfl
        rotate_left
        ·simp only [Act.put, List.setIfInBounds_toArray, List.set_cons_zero, List.set_cons_succ, i64_w, i32_w]
         rfl
        refine take_ (i := 6) (N := some 20) (v := ?_) (a' := ?_) #[true, true, true, true, true, true, true, false, false] rfl rfl (take_ofW HT_.out HW_.out (by kernel_rfl)) (fun _ _ _ h => h) (Or.inl ⟨by rfl, ?_⟩) hHeld ?_ ?_
        rotate_left
        ·rintro w' ⟨s0, s1⟩
         go_simp
         with_reducible rfl
        rotate_left
        ·simp only [Act.put, List.setIfInBounds_toArray, List.set_cons_zero, List.set_cons_succ, i64_w, i32_w]
         rfl
        refine one_ (i := 7) (N := some 21) #[true, true, true, true, true, true, true, true, false] rfl rfl (one_of HT_.out (by kernel_rfl)) (by decide) (fun K hK => ?_)
        refine goes_ Try.func240 (by kernel_rfl) rfl #[.slice (some ad552) y548.length c0, .agg #[.slice A552_0 ((rd_T118 l0 x3_1).f0).length c552_0, .slice A552_1 ((rd_T118 l0 x3_1).f1).length c552_1]] (by rfl) rfl rfl gA ?_
        with_reducible refine (spec_l03Commit.calls k1 _ _ y548 _ _ ((rd_T118 l0 x3_1).f0) _ _ ((rd_T118 l0 x3_1).f1) false _ ?side1 ?side2 ?side3 ?side4 ?side5 ?side6 A7.out).mono ?_
        (case side1 => exact cB HR551)
        (case side2 => exact HC551.out)
        (case side3 => exact cB HR552_0)
        (case side4 => exact HC552_0.out)
        (case side5 => exact cB HR552_1)
        (case side6 => exact HC552_1.out)
        rintro e w14 ⟨rfl, hb⟩
        refine ⟨_, rfl, ?_⟩
        have n0_ := Aside0.mk (below_step (w := w) bW hb)
        clear HB
        have HB := n0_
        clear n0_
        (try clear hb)
        (try clear hb2)
        (try clear hk)
        (try clear hi)
        refine hK.out _ _ ⟨((HB.out.cell (World.block_lt_of_cell? w _ hw552_0)).trans hw552_0), ((HB.out.cell (World.block_lt_of_cell? w _ hw552_1)).trans hw552_1)⟩ (fun hHeld => ?_)
        clear hK K
        refine norm_ (a' := ?_) ?_ ?_
        rotate_left
        ·show Act.put _ (some 21) _ = _
         simp only [Act.put, List.setIfInBounds_toArray, List.set_cons_zero, List.set_cons_succ, i64_w, i32_w]
         rfl
        refine pure_ (i := 8) (N := some 22) (v := ?_) (a' := ?_) #[true, true, true, true, true, true, true, true, true] rfl rfl (any_of HT_.out (by kernel_rfl)) (fun _ _ _ h => h) (Or.inl ⟨by rfl, ?_⟩) ?_ ?_
        rotate_left
        ·intro w'
         go_simp
         with_reducible rfl
        rotate_left
        ·simp only [Act.put, List.setIfInBounds_toArray, List.set_cons_zero, List.set_cons_succ, i64_w, i32_w]
         rfl
        refine done_ (done_of HT_.out (by kernel_rfl)) ?_
        try go_wp2
        go_ret
        exact ⟨rE, bW⟩
      ·rw [if_neg c6] at H
       exact absurd H (by simp)
     ·rw [if_neg c5] at H
      exact absurd H (by simp)
    ·rw [if_neg c4] at H
     have c4b0 : decide (x3_1 < (l0.length : Int)) = false := decide_eq_false c4
     clear c4
     obtain rfl := Option.some.inj H
     go_wp2
     go_ret
     exact ⟨rE, bW⟩
 ·replace c3 := Bool.eq_false_iff.mpr c3
  subst c3
  have H1 : (some false) = some r := by rw [if_neg (show ¬ (false = true) by decide)] at H; exact H
  clear H
  have H := H1
  clear H1
  obtain rfl := Option.some.inj H
  go_enter Try.func185, Try.ntmps185
  go_wp2_with (first | ((with_reducible refine gate_callee (f := 82) rfl ?_); refine goesL_ (some 6) rfl rfl Try.func82 (by kernel_rfl) rfl #[.int .i64 (l0.length : Int), .int .i64 1, .int .i64 60] rfl gA ?_; (with_reducible refine (spec_l01In.calls (l0.length : Int) 1 60 false _ A2.out).mono ?_); rintro e w' ⟨rfl, ⟨nd, rfl⟩⟩; refine ⟨_, rfl, ?_⟩))
  go_ret
  exact ⟨rE, bW⟩
end Go.Proofs.Ytcpljigliklgcaa.Q
end

section
namespace Go.Proofs.Ytcpljigliklgcaa.Q
open Go.RowKit Go.Proofs.YtcpljigliklgcaaW.PrintWords Go.Proofs.YtcpljigliklgcaaW.PrintLast Go.Proofs.YtcpljigliklgcaaW.PrintMore
attribute [local go_sem] max2_int min2_int max_two min_two max_three min_three max_four min_four   -- for this text's walks alone
set_option linter.unusedVariables false
set_option linter.unusedSimpArgs false
attribute [local go_sem] bin_leq bin_gtr bin_geq
mutual
def spec_l05OK.j0 : Nat → Bool → List (S118) → List (S178) → Option (Bool)
 | 0, _, _, _ => none
 | k + 1, x13, x555000, x555001 => if x13 = true then (some false) else (spec_l05OK.l0 k 0 x555000 x555001)
def spec_l05OK.l0 : Nat → Int → List (S118) → List (S178) → Option (Bool)
 | 0, _, _, _ => none
 | k + 1, x3, x555000, x555001 => if x3 < (x555001.length : Int) then (if 0 ≤ x3 then (if ((rd_T178 x555001 x3).f1) > (x555000.length : Int) then (some false) else (spec_l05OK.l0 k (wrap64 (x3 + 1)) x555000 x555001)) else (none)) else (some true)
end
def spec_l05OK.f (k : Nat) (l0_0 : List (S118)) (l0_1 : List (S178)) : Option (Bool) := (spec_l03OK.f k l0_0).bind fun t555 => (if t555 = true then ((spec_l04OK.f k l0_1).bind fun t556 => (spec_l05OK.j0 k (!t556) l0_0 l0_1)) else (spec_l05OK.j0 k true l0_0 l0_1))
set_option maxHeartbeats 8000000 in
set_option maxRecDepth 100000 in
theorem spec_l05OK.calls (k : Nat) (A0_0 : Option Addr) (c0_0 : Nat) (l0_0 : List (S118)) (A0_1 : Option Addr) (c0_1 : Nat) (l0_1 : List (S178)) (r : Bool) (w : World) (hr0_0 : Kd.C k118 w A0_0 l0_0.length l0_0) (hc0_0 : l0_0.length ≤ c0_0) (hr0_1 : Kd.C k178 w A0_1 l0_1.length l0_1) (hc0_1 : l0_1.length ≤ c0_1) (h : spec_l05OK.f k l0_0 l0_1 = some r) :
  Calls Try.prog 113 #[.agg #[.slice A0_0 l0_0.length c0_0, .slice A0_1 l0_1.length c0_1]] w fun e w' => e = .returned (.bool r) ∧ Below w.heap.size w w' := by
 have hu66 := Try.underlying66
 have HR0_0 := Aside0.mk hr0_0
 have HC0_0 := Aside0.mk hc0_0
 clear hr0_0 hc0_0
 have HR0_1 := Aside0.mk hr0_1
 have HC0_1 := Aside0.mk hc0_1
 clear hr0_1 hc0_1
 have HB := Aside0.mk (Below.refl w.heap.size w)
 have H : ((spec_l03OK.f k l0_0).bind fun t555 => (if t555 = true then ((spec_l04OK.f k l0_1).bind fun t556 => (spec_l05OK.j0 k (!t556) l0_0 l0_1)) else (spec_l05OK.j0 k true l0_0 l0_1))) = some r := h
 clear h
 have HC2 := Aside0.mk H
 clear H
 go_enter Try.func113, Try.ntmps113
 go_upto_region 1 with (first | ((with_reducible refine gate_dst (N := 1) rfl ?_); refine bE (N := 1) (cs := #[.slice A0_0 l0_0.length c0_0, .slice A0_1 l0_1.length c0_1]) (t := 66) ?_; intro gb554 hg w3 hbox hb; have n0_ := Aside0.mk (below_step (w := w) bW hb); have n1_ := Aside0.mk (hbox); have n2_ := Aside0.mk (gS (w := w) hg); have n3_ := n2_; clear HB; have HB := n0_; have BK554 := n1_; have GW554 := n2_; have GE554 := n3_; clear n0_ n1_ n2_ n3_; clear hb hbox hg))
 repeat (go_quiet (first | ((with_reducible refine gate_dst (N := 1) rfl ?_); refine bE (N := 1) (cs := #[.slice A0_0 l0_0.length c0_0, .slice A0_1 l0_1.length c0_1]) (t := 66) ?_; intro gb554 hg w3 hbox hb; have n0_ := Aside0.mk (below_step (w := w) bW hb); have n1_ := Aside0.mk (hbox); have n2_ := Aside0.mk (gS (w := w) hg); have n3_ := n2_; clear HB; have HB := n0_; have BK554 := n1_; have GW554 := n2_; have GE554 := n3_; clear n0_ n1_ n2_ n3_; clear hb hbox hg)); go_upto_region 1 with (first | ((with_reducible refine gate_dst (N := 1) rfl ?_); refine bE (N := 1) (cs := #[.slice A0_0 l0_0.length c0_0, .slice A0_1 l0_1.length c0_1]) (t := 66) ?_; intro gb554 hg w3 hbox hb; have n0_ := Aside0.mk (below_step (w := w) bW hb); have n1_ := Aside0.mk (hbox); have n2_ := Aside0.mk (gS (w := w) hg); have n3_ := n2_; clear HB; have HB := n0_; have BK554 := n1_; have GW554 := n2_; have GE554 := n3_; clear n0_ n1_ n2_ n3_; clear hb hbox hg)))
 (try simp only [Act.put, List.setIfInBounds_toArray, List.set_cons_zero, List.set_cons_succ])
 go_cut [13] (fun v13 wc => ∃ (kq : Nat) (x13_1 : Bool), v13 = .bool x13_1 ∧ Aside0 (spec_l05OK.j0 kq x13_1 l0_0 l0_1 = some r) ∧ Aside0 (kq ≤ k) ∧ Aside0 (wc.heap[gb554]? = some (.cells #[(.slice A0_0 l0_0.length c0_0), (.slice A0_1 l0_1.length c0_1)] 66 (0, 0))) ∧ Aside0 (Below w.heap.size w wc))
 case first =>
  have H := HC2.out
  clear HC2
  replace H := Option.bind_eq_some_iff.mp H
  obtain ⟨t555, A40, H⟩ := H
  replace H : (if t555 = true then ((spec_l04OK.f k l0_1).bind fun t556 => (spec_l05OK.j0 k (!t556) l0_0 l0_1)) else (spec_l05OK.j0 k true l0_0 l0_1)) = some r := H
  have A4 := Aside0.mk A40
  clear A40
  by_cases c5 : t555 = true
  ·subst c5
   have H1 : ((spec_l04OK.f k l0_1).bind fun t556 => (spec_l05OK.j0 k (!t556) l0_0 l0_1)) = some r := by rw [if_pos rfl] at H; exact H
   clear H
   have H := H1
   clear H1
   replace H := Option.bind_eq_some_iff.mp H
   obtain ⟨t556, A60, H⟩ := H
   replace H : (spec_l05OK.j0 k (!t556) l0_0 l0_1) = some r := H
   have A6 := Aside0.mk A60
   clear A60
   have H' := Aside0.mk H
   clear H
   have hcz7_0 : w3.cell? ⟨gb554, 0, none⟩ = some (.slice A0_0 l0_0.length c0_0) := (blk_cell BK554.out 0).trans rfl
   have hcz7_1 : w3.cell? ⟨gb554, 1, none⟩ = some (.slice A0_1 l0_1.length c0_1) := (blk_cell BK554.out 1).trans rfl
   have hfz7_0 := blk_frozen BK554.out 0
   have hfz7_1 := blk_frozen BK554.out 1
   go_wp2_with (first | (go_at_call 185; (with_reducible refine (spec_l03OK.calls k _ _ l0_0 true _ ?side1 ?side2 A4.out).mono ?_); (case side1 => exact cB HR0_0); (case side2 => exact HC0_0.out); rintro e w8 ⟨rfl, hb⟩; have n0_ := Aside0.mk (kb BK554 hb); have n1_ := Aside0.mk (below_step (w := w) bW hb); clear BK554; clear HB; have BK554 := n0_; have HB := n1_; clear n0_ n1_; (try clear hb); (try clear hb2); (try clear hk); (try clear hi); obtain ⟨hcz9_0, hcz9_1⟩ := cz2 BK554; obtain ⟨hfz9_0, hfz9_1⟩ := fz2 BK554) | (go_at_call 149; (with_reducible refine (spec_l04OK.calls k _ _ l0_1 t556 _ ?side1 ?side2 A6.out).mono ?_); (case side1 => exact cB HR0_1); (case side2 => exact HC0_1.out); rintro e w10 ⟨rfl, hb⟩; have n0_ := Aside0.mk (kb BK554 hb); have n1_ := Aside0.mk (below_step (w := w) bW hb); clear BK554; clear HB; have BK554 := n0_; have HB := n1_; clear n0_ n1_; (try clear hb); (try clear hb2); (try clear hk); (try clear hi)))
   repeat (go_quiet (first | (go_at_call 185; (with_reducible refine (spec_l03OK.calls k _ _ l0_0 true _ ?side1 ?side2 A4.out).mono ?_); (case side1 => exact cB HR0_0); (case side2 => exact HC0_0.out); rintro e w8 ⟨rfl, hb⟩; have n0_ := Aside0.mk (kb BK554 hb); have n1_ := Aside0.mk (below_step (w := w) bW hb); clear BK554; clear HB; have BK554 := n0_; have HB := n1_; clear n0_ n1_; (try clear hb); (try clear hb2); (try clear hk); (try clear hi); obtain ⟨hcz9_0, hcz9_1⟩ := cz2 BK554; obtain ⟨hfz9_0, hfz9_1⟩ := fz2 BK554) | (go_at_call 149; (with_reducible refine (spec_l04OK.calls k _ _ l0_1 t556 _ ?side1 ?side2 A6.out).mono ?_); (case side1 => exact cB HR0_1); (case side2 => exact HC0_1.out); rintro e w10 ⟨rfl, hb⟩; have n0_ := Aside0.mk (kb BK554 hb); have n1_ := Aside0.mk (below_step (w := w) bW hb); clear BK554; clear HB; have BK554 := n0_; have HB := n1_; clear n0_ n1_; (try clear hb); (try clear hb2); (try clear hk); (try clear hi))); try go_wp2_with (first | (go_at_call 185; (with_reducible refine (spec_l03OK.calls k _ _ l0_0 true _ ?side1 ?side2 A4.out).mono ?_); (case side1 => exact cB HR0_0); (case side2 => exact HC0_0.out); rintro e w8 ⟨rfl, hb⟩; have n0_ := Aside0.mk (kb BK554 hb); have n1_ := Aside0.mk (below_step (w := w) bW hb); clear BK554; clear HB; have BK554 := n0_; have HB := n1_; clear n0_ n1_; (try clear hb); (try clear hb2); (try clear hk); (try clear hi); obtain ⟨hcz9_0, hcz9_1⟩ := cz2 BK554; obtain ⟨hfz9_0, hfz9_1⟩ := fz2 BK554) | (go_at_call 149; (with_reducible refine (spec_l04OK.calls k _ _ l0_1 t556 _ ?side1 ?side2 A6.out).mono ?_); (case side1 => exact cB HR0_1); (case side2 => exact HC0_1.out); rintro e w10 ⟨rfl, hb⟩; have n0_ := Aside0.mk (kb BK554 hb); have n1_ := Aside0.mk (below_step (w := w) bW hb); clear BK554; clear HB; have BK554 := n0_; have HB := n1_; clear n0_ n1_; (try clear hb); (try clear hb2); (try clear hk); (try clear hi))))
   go_meet
   case rel => exact ⟨_, (!t556), vE, H', ⟨by first | omega | exact Nat.le_refl _⟩, ⟨by (with_reducible repeat (first | refine blk_drewN ?_ _ | refine blk_drew ?_ | refine blk_alloc ?_ _)); exact BK554.out⟩, ⟨bW⟩⟩
  ·replace c5 := Bool.eq_false_iff.mpr c5
   subst c5
   have H1 : (spec_l05OK.j0 k true l0_0 l0_1) = some r := by rw [if_neg (show ¬ (false = true) by decide)] at H; exact H
   clear H
   have H := H1
   clear H1
   have H' := Aside0.mk H
   clear H
   have hcz11_0 : w3.cell? ⟨gb554, 0, none⟩ = some (.slice A0_0 l0_0.length c0_0) := (blk_cell BK554.out 0).trans rfl
   have hcz11_1 : w3.cell? ⟨gb554, 1, none⟩ = some (.slice A0_1 l0_1.length c0_1) := (blk_cell BK554.out 1).trans rfl
   have hfz11_0 := blk_frozen BK554.out 0
   have hfz11_1 := blk_frozen BK554.out 1
   go_wp2_with (first | (go_at_call 185; (with_reducible refine (spec_l03OK.calls k _ _ l0_0 false _ ?side1 ?side2 A4.out).mono ?_); (case side1 => exact cB HR0_0); (case side2 => exact HC0_0.out); rintro e w12 ⟨rfl, hb⟩; have n0_ := Aside0.mk (kb BK554 hb); have n1_ := Aside0.mk (below_step (w := w) bW hb); clear BK554; clear HB; have BK554 := n0_; have HB := n1_; clear n0_ n1_; (try clear hb); (try clear hb2); (try clear hk); (try clear hi)))
   repeat (go_quiet (first | (go_at_call 185; (with_reducible refine (spec_l03OK.calls k _ _ l0_0 false _ ?side1 ?side2 A4.out).mono ?_); (case side1 => exact cB HR0_0); (case side2 => exact HC0_0.out); rintro e w12 ⟨rfl, hb⟩; have n0_ := Aside0.mk (kb BK554 hb); have n1_ := Aside0.mk (below_step (w := w) bW hb); clear BK554; clear HB; have BK554 := n0_; have HB := n1_; clear n0_ n1_; (try clear hb); (try clear hb2); (try clear hk); (try clear hi))); try go_wp2_with (first | (go_at_call 185; (with_reducible refine (spec_l03OK.calls k _ _ l0_0 false _ ?side1 ?side2 A4.out).mono ?_); (case side1 => exact cB HR0_0); (case side2 => exact HC0_0.out); rintro e w12 ⟨rfl, hb⟩; have n0_ := Aside0.mk (kb BK554 hb); have n1_ := Aside0.mk (below_step (w := w) bW hb); clear BK554; clear HB; have BK554 := n0_; have HB := n1_; clear n0_ n1_; (try clear hb); (try clear hb2); (try clear hk); (try clear hi))))
   go_meet
   case rel => exact ⟨_, (true), vE, H', ⟨by first | omega | exact Nat.le_refl _⟩, ⟨by (with_reducible repeat (first | refine blk_drewN ?_ _ | refine blk_drew ?_ | refine blk_alloc ?_ _)); exact BK554.out⟩, ⟨bW⟩⟩
 case rest =>
  clear HC2
  try clear c1
  try clear p2
  try clear c5
  try clear c11
  try clear hcz11_0
  try clear hcz11_1
  try clear hcz7_0
  try clear hcz7_1
  try clear hcz9_0
  try clear hcz9_1
  try clear hfz11_0
  try clear hfz11_1
  try clear hfz7_0
  try clear hfz7_1
  try clear hfz9_0
  try clear hfz9_1
  obtain ⟨kq, x13_1, rfl, HA, HJ1, BK554, HB⟩ := hcut
  cases kq with
  | zero => exact absurd HA.out (by simp [spec_l05OK.j0])
  | succ kj1 =>
   have H := HA.out
   clear HA
   simp only [spec_l05OK.j0] at H
   by_cases c13 : x13_1 = true
   ·subst c13
    have H1 : (some false) = some r := by rw [if_pos rfl] at H; exact H
    clear H
    have H := H1
    clear H1
    obtain rfl := Option.some.inj H
    go_wp2
    repeat (go_quiet (fail); try go_wp2)
    go_ret
    exact ⟨rE, bW⟩
   ·replace c13 := Bool.eq_false_iff.mpr c13
    subst c13
    have H1 : (spec_l05OK.l0 kj1 0 l0_0 l0_1) = some r := by rw [if_neg (show ¬ (false = true) by decide)] at H; exact H
    clear H
    have H := H1
    clear H1
    have H' := Aside0.mk H
    clear H
    go_wp2
    repeat (go_quiet (fail); try go_wp2)
    go_loopg [3] kj1 (fun kq v3 w' => ∃ (x3_2 : Int), v3 = .int .i64 x3_2 ∧ Aside0 (spec_l05OK.l0 kq x3_2 l0_0 l0_1 = some r) ∧ Aside0 (kq ≤ kj1) ∧ Aside0 (w'.heap[gb554]? = some (.cells #[(.slice A0_0 l0_0.length c0_0), (.slice A0_1 l0_1.length c0_1)] 66 (0, 0))) ∧ Aside0 (Below w.heap.size w w'))
    case atStart => exact ⟨(0), vE, H', ⟨Nat.le_refl _⟩, ⟨by (with_reducible repeat (first | refine blk_drewN ?_ _ | refine blk_drew ?_ | refine blk_alloc ?_ _)); exact BK554.out⟩, ⟨bW⟩⟩
    case round =>
     clear H'
     try clear c1
     try clear p2
     try clear c5
     try clear c11
     try clear c13
     try clear hcz11_0
     try clear hcz11_1
     try clear hcz7_0
     try clear hcz7_1
     try clear hcz9_0
     try clear hcz9_1
     try clear hfz11_0
     try clear hfz11_1
     try clear hfz7_0
     try clear hfz7_1
     try clear hfz9_0
     try clear hfz9_1
     try clear p2
     obtain ⟨x3_2, rfl, HA, HK2, BK554, HB⟩ := hrel
     cases gk with
     | zero => exact absurd HA.out (by simp [spec_l05OK.l0])
     | succ k2 =>
      have H := HA.out
      clear HA
      simp only [spec_l05OK.l0] at H
      by_cases c14 : x3_2 < (l0_1.length : Int)
      ·rw [if_pos c14] at H
       have c14b0 : decide (x3_2 < (l0_1.length : Int)) = true := decide_eq_true c14
       clear c14
       by_cases c15 : 0 ≤ x3_2
       ·rw [if_pos c15] at H
        have c15b0 : decide (0 ≤ x3_2) = true := decide_eq_true c15
        clear c15
        by_cases c16 : ((rd_T178 l0_1 x3_2).f1) > (l0_0.length : Int)
        ·rw [if_pos c16] at H
         have c16b0 : decide ((l0_0.length : Int) < ((rd_T178 l0_1 x3_2).f1)) = true := decide_eq_true c16
         clear c16
         obtain rfl := Option.some.inj H
         have hcz17_0 : wr.cell? ⟨gb554, 0, none⟩ = some (.slice A0_0 l0_0.length c0_0) := (blk_cell BK554.out 0).trans rfl
         have hcz17_1 : wr.cell? ⟨gb554, 1, none⟩ = some (.slice A0_1 l0_1.length c0_1) := (blk_cell BK554.out 1).trans rfl
         have hfz17_0 := blk_frozen BK554.out 0
         have hfz17_1 := blk_frozen BK554.out 1
         have p557 : 0 ≤ (x3_2 : Int) := odt
         have q557 : x3_2 < (l0_1.length : Int) := odt
         obtain ⟨ad557, e557, hx557_0, hx557_1, hx557_2, hx557_3⟩ := at_T178 HR0_1.out x3_2 p557 q557
         cases e557
         replace hx557_0 := (HB.out.cell (World.block_lt_of_cell? w _ hx557_0)).trans hx557_0
         replace hx557_1 := (HB.out.cell (World.block_lt_of_cell? w _ hx557_1)).trans hx557_1
         replace hx557_2 := (HB.out.cell (World.block_lt_of_cell? w _ hx557_2)).trans hx557_2
         replace hx557_3 := (HB.out.cell (World.block_lt_of_cell? w _ hx557_3)).trans hx557_3
         replace p557 := eq_true p557
         replace q557 := eq_true q557
         go_wp2
         repeat (go_quiet (fail); try go_wp2)
         go_ret
         exact ⟨rE, bW⟩
        ·rw [if_neg c16] at H
         have c16b0 : decide ((l0_0.length : Int) < ((rd_T178 l0_1 x3_2).f1)) = false := decide_eq_false c16
         clear c16
         have H' := Aside0.mk H
         clear H
         have hcz18_0 : wr.cell? ⟨gb554, 0, none⟩ = some (.slice A0_0 l0_0.length c0_0) := (blk_cell BK554.out 0).trans rfl
         have hcz18_1 : wr.cell? ⟨gb554, 1, none⟩ = some (.slice A0_1 l0_1.length c0_1) := (blk_cell BK554.out 1).trans rfl
         have hfz18_0 := blk_frozen BK554.out 0
         have hfz18_1 := blk_frozen BK554.out 1
         have p557 : 0 ≤ (x3_2 : Int) := odt
         have q557 : x3_2 < (l0_1.length : Int) := odt
         obtain ⟨ad557, e557, hx557_0, hx557_1, hx557_2, hx557_3⟩ := at_T178 HR0_1.out x3_2 p557 q557
         cases e557
         replace hx557_0 := (HB.out.cell (World.block_lt_of_cell? w _ hx557_0)).trans hx557_0
         replace hx557_1 := (HB.out.cell (World.block_lt_of_cell? w _ hx557_1)).trans hx557_1
         replace hx557_2 := (HB.out.cell (World.block_lt_of_cell? w _ hx557_2)).trans hx557_2
         replace hx557_3 := (HB.out.cell (World.block_lt_of_cell? w _ hx557_3)).trans hx557_3
         replace p557 := eq_true p557
         replace q557 := eq_true q557
         go_wp2
         repeat (go_quiet (fail); try go_wp2)
         go_roundg k2
         case measure => have := HJ1.out; have := HK2.out; omega
         case rel => exact ⟨(wrap64 (x3_2 + 1)), vE, H', ⟨by have := HJ1.out; have := HK2.out; omega⟩, ⟨by (with_reducible repeat (first | refine blk_drewN ?_ _ | refine blk_drew ?_ | refine blk_alloc ?_ _)); exact BK554.out⟩, ⟨bW⟩⟩
       ·rw [if_neg c15] at H
        exact absurd H (by simp)
      ·rw [if_neg c14] at H
       have c14b0 : decide (x3_2 < (l0_1.length : Int)) = false := decide_eq_false c14
       clear c14
       obtain rfl := Option.some.inj H
       have hcz19_0 : wr.cell? ⟨gb554, 0, none⟩ = some (.slice A0_0 l0_0.length c0_0) := (blk_cell BK554.out 0).trans rfl
       have hcz19_1 : wr.cell? ⟨gb554, 1, none⟩ = some (.slice A0_1 l0_1.length c0_1) := (blk_cell BK554.out 1).trans rfl
       have hfz19_0 := blk_frozen BK554.out 0
       have hfz19_1 := blk_frozen BK554.out 1
       go_wp2
       repeat (go_quiet (fail); try go_wp2)
       go_ret
       exact ⟨rE, bW⟩
end Go.Proofs.Ytcpljigliklgcaa.Q
end

section
namespace Go.Proofs.Ytcpljigliklgcaa.Q
open Go.RowKit Go.Proofs.YtcpljigliklgcaaW.PrintWords Go.Proofs.YtcpljigliklgcaaW.PrintLast Go.Proofs.YtcpljigliklgcaaW.PrintMore
attribute [local go_sem] max2_int min2_int max_two min_two max_three min_three max_four min_four   -- for this text's walks alone
set_option linter.unusedVariables false
set_option linter.unusedSimpArgs false
attribute [local go_sem] bin_leq bin_gtr bin_geq
theorem eqA178 (d : Nat) (w : World) (x0 y0 : ByteArray) (x1 y1 : Int) (x2 y2 : Int) (x3 y3 : Bool) :
    (Op.equalIn (d + 2) 178 (.agg #[.string x0, .int .i64 x1, .int .i64 x2, .bool x3]) (.agg #[.string y0, .int .i64 y1, .int .i64 y2, .bool y3])).run Try.prog w = .ok (x0.toList == y0.toList && (x1 == y1 && (x2 == y2 && (x3 == y3)))) w := by
  refine eqA_of Try.underlying178 (by kernel_rfl) ?_
  refine eqf_cons (by rfl) (by go_simp; rfl) (by go_simp; rfl) (by go_simp) ?_
  refine eqf_cons (by rfl) (by go_simp; rfl) (by go_simp; rfl) (by go_simp) ?_
  refine eqf_cons (by rfl) (by go_simp; rfl) (by go_simp; rfl) (by go_simp) ?_
  exact eqf_last (by rfl) (by go_simp; rfl) (by go_simp; rfl) (by go_simp)
end Go.Proofs.Ytcpljigliklgcaa.Q
end

section
namespace Go.Proofs.Ytcpljigliklgcaa.Q
open Go.RowKit Go.Proofs.YtcpljigliklgcaaW.PrintWords Go.Proofs.YtcpljigliklgcaaW.PrintLast Go.Proofs.YtcpljigliklgcaaW.PrintMore
attribute [local go_sem] max2_int min2_int max_two min_two max_three min_three max_four min_four   -- for this text's walks alone
set_option linter.unusedVariables false
set_option linter.unusedSimpArgs false
attribute [local go_sem] bin_leq bin_gtr bin_geq
theorem eqA51 (d : Nat) (w : World) (x0 y0 : ByteArray) (x1 y1 : Int) :
    (Op.equalIn (d + 2) 51 (.agg #[.string x0, .int .i64 x1]) (.agg #[.string y0, .int .i64 y1])).run Try.prog w = .ok (x0.toList == y0.toList && (x1 == y1)) w := by
  refine eqA_of Try.underlying51 (by kernel_rfl) ?_
  refine eqf_cons (by rfl) (by go_simp; rfl) (by go_simp; rfl) (by go_simp) ?_
  exact eqf_last (by rfl) (by go_simp; rfl) (by go_simp; rfl) (by go_simp)
end Go.Proofs.Ytcpljigliklgcaa.Q
end

section
namespace Go.Proofs.Ytcpljigliklgcaa.Q
open Go.RowKit Go.Proofs.YtcpljigliklgcaaW.PrintWords Go.Proofs.YtcpljigliklgcaaW.PrintLast Go.Proofs.YtcpljigliklgcaaW.PrintMore
attribute [local go_sem] max2_int min2_int max_two min_two max_three min_three max_four min_four   -- for this text's walks alone
set_option linter.unusedVariables false
set_option linter.unusedSimpArgs false
attribute [local go_sem] bin_leq bin_gtr bin_geq
attribute [local go_sem high] eqA51
def spec_l01Same.l0 : Nat → List (S51) → List (S51) → Int → Option (Bool)
  | 0, _, _, _ => none
  | k + 1, x0, x1, x5 => if x5 < (x0.length : Int) then (if 0 ≤ x5 then (if x5 < (x1.length : Int) then (if (!((((rd_T51 x0 x5).f0).toList) == (((rd_T51 x1 x5).f0).toList)) || (!(((rd_T51 x0 x5).f1) == ((rd_T51 x1 x5).f1)))) = true then (some false) else (spec_l01Same.l0 k x0 x1 (wrap64 (x5 + 1)))) else (none)) else (none)) else (some true)
def spec_l01Same.f (k : Nat) (l0 : List (S51)) (l1 : List (S51)) : Option (Bool) := if (l0.length : Int) = (l1.length : Int) then (spec_l01Same.l0 k l0 l1 0) else (some false)
set_option maxHeartbeats 8000000 in
set_option maxRecDepth 100000 in
theorem spec_l01Same.calls (k : Nat) (A0 : Option Addr) (c0 : Nat) (l0 : List (S51)) (A1 : Option Addr) (c1 : Nat) (l1 : List (S51)) (r : Bool) (w : World) (hr0 : Kd.C k51 w A0 l0.length l0) (hc0 : l0.length ≤ c0) (hr1 : Kd.C k51 w A1 l1.length l1) (hc1 : l1.length ≤ c1) (h : spec_l01Same.f k l0 l1 = some r) :
    Calls Try.prog 203 #[.slice A0 l0.length c0, .slice A1 l1.length c1] w fun e w' => e = .returned (.bool r) ∧ Drawn0 w w' := by
  have hu51 := Try.underlying51
  have HR0 := Aside0.mk hr0
  have HC0 := Aside0.mk hc0
  clear hr0 hc0
  have HR1 := Aside0.mk hr1
  have HC1 := Aside0.mk hc1
  clear hr1 hc1
  have H : (if (l0.length : Int) = (l1.length : Int) then (spec_l01Same.l0 k l0 l1 0) else (some false)) = some r := h
  clear h
  by_cases c3 : (l0.length : Int) = (l1.length : Int)
  · rw [if_pos c3] at H
    have c3b0 : ((l0.length : Int) == (l1.length : Int)) = true := beq_iff_eq.mpr c3
    have c3b1 : ((l0.length : Int) != (l1.length : Int)) = false := bne_eq_false_iff_eq.mpr c3
    have c3b2 : (l0.length == l1.length) = true := by first | simpa using c3 | (simp at c3 ⊢; omega)
    clear c3
    have H' := Aside0.mk H
    clear H
    go_enter Try.func203, Try.ntmps203
    go_wp2
    repeat (go_quiet (fail); try go_wp2)
    go_loopg [5] k (fun kq v5 w' => ∃ (x5_1 : Int), v5 = .int .i64 x5_1 ∧ Aside0 (spec_l01Same.l0 kq l0 l1 x5_1 = some r) ∧ Aside0 (kq ≤ k) ∧ Drawn0 w w')
    case atStart => exact ⟨(0), vE, H', ⟨Nat.le_refl _⟩, by repeat (first | exact Drawn0.refl _ | apply Drawn0.step)⟩
    case round =>
      clear H'
      try clear c1
      try clear c2
      try clear p2
      try clear c3
      try clear c3b0
      try clear c3b1
      try clear c3b2
      obtain ⟨x5_1, rfl, HA, HK1, ⟨m1, rfl⟩⟩ := hrel
      cases gk with
      | zero => exact absurd HA.out (by simp [spec_l01Same.l0])
      | succ k1 =>
        have H := HA.out
        clear HA
        simp only [spec_l01Same.l0] at H
        by_cases c4 : x5_1 < (l0.length : Int)
        · rw [if_pos c4] at H
          have c4b0 : decide (x5_1 < (l0.length : Int)) = true := decide_eq_true c4
          clear c4
          by_cases c5 : 0 ≤ x5_1
          · rw [if_pos c5] at H
            have c5b0 : decide (0 ≤ x5_1) = true := decide_eq_true c5
            clear c5
            by_cases c6 : x5_1 < (l1.length : Int)
            · rw [if_pos c6] at H
              have c6b0 : decide (x5_1 < (l1.length : Int)) = true := decide_eq_true c6
              clear c6
              by_cases c7 : (!((((rd_T51 l0 x5_1).f0).toList) == (((rd_T51 l1 x5_1).f0).toList)) || (!(((rd_T51 l0 x5_1).f1) == ((rd_T51 l1 x5_1).f1)))) = true
              · rw [if_pos c7] at H
                have c7b0 : (!((((rd_T51 l0 x5_1).f0).toList) == (((rd_T51 l1 x5_1).f0).toList)) || (!(((rd_T51 l0 x5_1).f1) == ((rd_T51 l1 x5_1).f1)))) = true := c7
                clear c7
                obtain rfl := Option.some.inj H
                have p768 : 0 ≤ (x5_1 : Int) := odt
                have q768 : x5_1 < (l0.length : Int) := odt
                obtain ⟨ad768, e768, hx768_0, hx768_1⟩ := at_T51 HR0.out x5_1 p768 q768
                cases e768
                replace p768 := eq_true p768
                replace q768 := eq_true q768
                have p769 : 0 ≤ (x5_1 : Int) := odt
                have q769 : x5_1 < (l1.length : Int) := odt
                obtain ⟨ad769, e769, hx769_0, hx769_1⟩ := at_T51 HR1.out x5_1 p769 q769
                cases e769
                replace p769 := eq_true p769
                replace q769 := eq_true q769
                go_wp2
                repeat (go_quiet (fail); try go_wp2)
                go_ret
                exact ⟨by first | rfl | (simp; done) | (simp [*]; done), by repeat (first | exact Drawn0.refl _ | apply Drawn0.step)⟩
              · rw [if_neg c7] at H
                have c7b0 : (!((((rd_T51 l0 x5_1).f0).toList) == (((rd_T51 l1 x5_1).f0).toList)) || (!(((rd_T51 l0 x5_1).f1) == ((rd_T51 l1 x5_1).f1)))) = false := by simpa using c7
                clear c7
                have H' := Aside0.mk H
                clear H
                have p768 : 0 ≤ (x5_1 : Int) := odt
                have q768 : x5_1 < (l0.length : Int) := odt
                obtain ⟨ad768, e768, hx768_0, hx768_1⟩ := at_T51 HR0.out x5_1 p768 q768
                cases e768
                replace p768 := eq_true p768
                replace q768 := eq_true q768
                have p769 : 0 ≤ (x5_1 : Int) := odt
                have q769 : x5_1 < (l1.length : Int) := odt
                obtain ⟨ad769, e769, hx769_0, hx769_1⟩ := at_T51 HR1.out x5_1 p769 q769
                cases e769
                replace p769 := eq_true p769
                replace q769 := eq_true q769
                go_wp2
                repeat (go_quiet (fail); try go_wp2)
                go_roundg k1
                case measure => have := HK1.out; omega
                case rel => exact ⟨(wrap64 (x5_1 + 1)), vE, H', ⟨by have := HK1.out; omega⟩, by repeat (first | exact Drawn0.refl _ | apply Drawn0.step)⟩
            · rw [if_neg c6] at H
              exact absurd H (by simp)
          · rw [if_neg c5] at H
            exact absurd H (by simp)
        · rw [if_neg c4] at H
          have c4b0 : decide (x5_1 < (l0.length : Int)) = false := decide_eq_false c4
          clear c4
          obtain rfl := Option.some.inj H
          go_wp2
          repeat (go_quiet (fail); try go_wp2)
          go_ret
          exact ⟨by first | rfl | (simp; done) | (simp [*]; done), by repeat (first | exact Drawn0.refl _ | apply Drawn0.step)⟩
  · rw [if_neg c3] at H
    have c3b0 : ((l0.length : Int) == (l1.length : Int)) = false := beq_eq_false_iff_ne.mpr c3
    have c3b1 : ((l0.length : Int) != (l1.length : Int)) = true := bne_iff_ne.mpr c3
    have c3b2 : (l0.length == l1.length) = false := by first | simpa using c3 | (simp at c3 ⊢; omega)
    obtain rfl := Option.some.inj H
    go_enter Try.func203, Try.ntmps203
    go_wp2
    repeat (go_quiet (fail); try go_wp2)
    go_ret
    exact ⟨by first | rfl | (simp; done) | (simp [*]; done), by repeat (first | exact Drawn0.refl _ | apply Drawn0.step)⟩
end Go.Proofs.Ytcpljigliklgcaa.Q
end

section
namespace Go.Proofs.Ytcpljigliklgcaa.Q
open Go.RowKit Go.Proofs.YtcpljigliklgcaaW.PrintWords Go.Proofs.YtcpljigliklgcaaW.PrintLast Go.Proofs.YtcpljigliklgcaaW.PrintMore
attribute [local go_sem] max2_int min2_int max_two min_two max_three min_three max_four min_four   -- for this text's walks alone
set_option linter.unusedVariables false
set_option linter.unusedSimpArgs false
attribute [local go_sem] bin_leq bin_gtr bin_geq
def spec_l00Same.l0 : Nat → List Int → List Int → Int → Option (Bool)
  | 0, _, _, _ => none
  | k + 1, x0, x1, x5 => if x5 < (x0.length : Int) then (if 0 ≤ x5 then (if x5 < (x1.length : Int) then (if (rd x0 x5) = (rd x1 x5) then (spec_l00Same.l0 k x0 x1 (wrap64 (x5 + 1))) else (some false)) else (none)) else (none)) else (some true)
def spec_l00Same.f (k : Nat) (l0 : List Int) (l1 : List Int) : Option (Bool) := if (l0.length : Int) = (l1.length : Int) then (spec_l00Same.l0 k l0 l1 0) else (some false)
set_option maxHeartbeats 8000000 in
set_option maxRecDepth 100000 in
theorem spec_l00Same.calls (k : Nat) (A0 : Option Addr) (c0 : Nat) (l0 : List Int) (A1 : Option Addr) (c1 : Nat) (l1 : List Int) (r : Bool) (w : World) (hr0 : Kd.C (Kd.int .i64) w A0 l0.length l0) (hc0 : l0.length ≤ c0) (hr1 : Kd.C (Kd.int .i64) w A1 l1.length l1) (hc1 : l1.length ≤ c1) (h : spec_l00Same.f k l0 l1 = some r) :
    Calls Try.prog 256 #[.slice A0 l0.length c0, .slice A1 l1.length c1] w fun e w' => e = .returned (.bool r) ∧ Drawn0 w w' := by
  have HR0 := Aside0.mk hr0
  have HC0 := Aside0.mk hc0
  clear hr0 hc0
  have HR1 := Aside0.mk hr1
  have HC1 := Aside0.mk hc1
  clear hr1 hc1
  have H : (if (l0.length : Int) = (l1.length : Int) then (spec_l00Same.l0 k l0 l1 0) else (some false)) = some r := h
  clear h
  by_cases c3 : (l0.length : Int) = (l1.length : Int)
  · rw [if_pos c3] at H
    have c3b0 : ((l0.length : Int) == (l1.length : Int)) = true := beq_iff_eq.mpr c3
    have c3b1 : ((l0.length : Int) != (l1.length : Int)) = false := bne_eq_false_iff_eq.mpr c3
    have c3b2 : (l0.length == l1.length) = true := by first | simpa using c3 | (simp at c3 ⊢; omega)
    clear c3
    have H' := Aside0.mk H
    clear H
    go_enter Try.func256, Try.ntmps256
    go_wp2
    repeat (go_quiet (fail); try go_wp2)
    go_loopg [5] k (fun kq v5 w' => ∃ (x5_1 : Int), v5 = .int .i64 x5_1 ∧ Aside0 (spec_l00Same.l0 kq l0 l1 x5_1 = some r) ∧ Aside0 (kq ≤ k) ∧ Drawn0 w w')
    case atStart => exact ⟨(0), vE, H', ⟨Nat.le_refl _⟩, by repeat (first | exact Drawn0.refl _ | apply Drawn0.step)⟩
    case round =>
      clear H'
      try clear c1
      try clear c2
      try clear p2
      try clear c3
      try clear c3b0
      try clear c3b1
      try clear c3b2
      obtain ⟨x5_1, rfl, HA, HK1, ⟨m1, rfl⟩⟩ := hrel
      cases gk with
      | zero => exact absurd HA.out (by simp [spec_l00Same.l0])
      | succ k1 =>
        have H := HA.out
        clear HA
        simp only [spec_l00Same.l0] at H
        by_cases c4 : x5_1 < (l0.length : Int)
        · rw [if_pos c4] at H
          have c4b0 : decide (x5_1 < (l0.length : Int)) = true := decide_eq_true c4
          clear c4
          by_cases c5 : 0 ≤ x5_1
          · rw [if_pos c5] at H
            have c5b0 : decide (0 ≤ x5_1) = true := decide_eq_true c5
            clear c5
            by_cases c6 : x5_1 < (l1.length : Int)
            · rw [if_pos c6] at H
              have c6b0 : decide (x5_1 < (l1.length : Int)) = true := decide_eq_true c6
              clear c6
              by_cases c7 : (rd l0 x5_1) = (rd l1 x5_1)
              · rw [if_pos c7] at H
                have c7b0 : ((rd l0 x5_1) == (rd l1 x5_1)) = true := beq_iff_eq.mpr c7
                have c7b1 : ((rd l0 x5_1) != (rd l1 x5_1)) = false := bne_eq_false_iff_eq.mpr c7
                clear c7
                have H' := Aside0.mk H
                clear H
                have p770 : 0 ≤ (x5_1 : Int) := odt
                have q770 : x5_1 < (l0.length : Int) := odt
                obtain ⟨ad770, e770, hx770_0⟩ := Kd.at_int HR0.out x5_1 p770 q770
                cases e770
                replace p770 := eq_true p770
                replace q770 := eq_true q770
                have p771 : 0 ≤ (x5_1 : Int) := odt
                have q771 : x5_1 < (l1.length : Int) := odt
                obtain ⟨ad771, e771, hx771_0⟩ := Kd.at_int HR1.out x5_1 p771 q771
                cases e771
                replace p771 := eq_true p771
                replace q771 := eq_true q771
                go_wp2
                repeat (go_quiet (fail); try go_wp2)
                go_roundg k1
                case measure => have := HK1.out; omega
                case rel => exact ⟨(wrap64 (x5_1 + 1)), vE, H', ⟨by have := HK1.out; omega⟩, by repeat (first | exact Drawn0.refl _ | apply Drawn0.step)⟩
              · rw [if_neg c7] at H
                have c7b0 : ((rd l0 x5_1) == (rd l1 x5_1)) = false := beq_eq_false_iff_ne.mpr c7
                have c7b1 : ((rd l0 x5_1) != (rd l1 x5_1)) = true := bne_iff_ne.mpr c7
                obtain rfl := Option.some.inj H
                have p770 : 0 ≤ (x5_1 : Int) := odt
                have q770 : x5_1 < (l0.length : Int) := odt
                obtain ⟨ad770, e770, hx770_0⟩ := Kd.at_int HR0.out x5_1 p770 q770
                cases e770
                replace p770 := eq_true p770
                replace q770 := eq_true q770
                have p771 : 0 ≤ (x5_1 : Int) := odt
                have q771 : x5_1 < (l1.length : Int) := odt
                obtain ⟨ad771, e771, hx771_0⟩ := Kd.at_int HR1.out x5_1 p771 q771
                cases e771
                replace p771 := eq_true p771
                replace q771 := eq_true q771
                go_wp2
                repeat (go_quiet (fail); try go_wp2)
                go_ret
                exact ⟨by first | rfl | (simp; done) | (simp [*]; done), by repeat (first | exact Drawn0.refl _ | apply Drawn0.step)⟩
            · rw [if_neg c6] at H
              exact absurd H (by simp)
          · rw [if_neg c5] at H
            exact absurd H (by simp)
        · rw [if_neg c4] at H
          have c4b0 : decide (x5_1 < (l0.length : Int)) = false := decide_eq_false c4
          clear c4
          obtain rfl := Option.some.inj H
          go_wp2
          repeat (go_quiet (fail); try go_wp2)
          go_ret
          exact ⟨by first | rfl | (simp; done) | (simp [*]; done), by repeat (first | exact Drawn0.refl _ | apply Drawn0.step)⟩
  · rw [if_neg c3] at H
    have c3b0 : ((l0.length : Int) == (l1.length : Int)) = false := beq_eq_false_iff_ne.mpr c3
    have c3b1 : ((l0.length : Int) != (l1.length : Int)) = true := bne_iff_ne.mpr c3
    have c3b2 : (l0.length == l1.length) = false := by first | simpa using c3 | (simp at c3 ⊢; omega)
    obtain rfl := Option.some.inj H
    go_enter Try.func256, Try.ntmps256
    go_wp2
    repeat (go_quiet (fail); try go_wp2)
    go_ret
    exact ⟨by first | rfl | (simp; done) | (simp [*]; done), by repeat (first | exact Drawn0.refl _ | apply Drawn0.step)⟩
end Go.Proofs.Ytcpljigliklgcaa.Q
end

section
namespace Go.Proofs.Ytcpljigliklgcaa.Q
open Go.RowKit Go.Proofs.YtcpljigliklgcaaW.PrintWords Go.Proofs.YtcpljigliklgcaaW.PrintLast Go.Proofs.YtcpljigliklgcaaW.PrintMore
attribute [local go_sem] max2_int min2_int max_two min_two max_three min_three max_four min_four   -- for this text's walks alone
set_option linter.unusedVariables false
set_option linter.unusedSimpArgs false
attribute [local go_sem] bin_leq bin_gtr bin_geq
def spec_l03SameCommit.f (k : Nat) (l0_0 : List Int) (l0_1 : List (S51)) (l1_0 : List Int) (l1_1 : List (S51)) : Option (Bool) := (spec_l00Same.f k l0_0 l1_0).bind fun t774 => (if t774 = true then ((spec_l01Same.f k l0_1 l1_1).bind fun t775 => (some t775)) else (some false))
set_option maxHeartbeats 8000000 in
set_option maxRecDepth 100000 in
theorem spec_l03SameCommit.calls (k : Nat) (A0_0 : Option Addr) (c0_0 : Nat) (l0_0 : List Int) (A0_1 : Option Addr) (c0_1 : Nat) (l0_1 : List (S51)) (A1_0 : Option Addr) (c1_0 : Nat) (l1_0 : List Int) (A1_1 : Option Addr) (c1_1 : Nat) (l1_1 : List (S51)) (r : Bool) (w : World) (hr0_0 : Kd.C (Kd.int .i64) w A0_0 l0_0.length l0_0) (hc0_0 : l0_0.length ≤ c0_0) (hr0_1 : Kd.C k51 w A0_1 l0_1.length l0_1) (hc0_1 : l0_1.length ≤ c0_1) (hr1_0 : Kd.C (Kd.int .i64) w A1_0 l1_0.length l1_0) (hc1_0 : l1_0.length ≤ c1_0) (hr1_1 : Kd.C k51 w A1_1 l1_1.length l1_1) (hc1_1 : l1_1.length ≤ c1_1) (h : spec_l03SameCommit.f k l0_0 l0_1 l1_0 l1_1 = some r) :
    Calls Try.prog 242 #[.agg #[.slice A0_0 l0_0.length c0_0, .slice A0_1 l0_1.length c0_1], .agg #[.slice A1_0 l1_0.length c1_0, .slice A1_1 l1_1.length c1_1]] w fun e w' => e = .returned (.bool r) ∧ Below w.heap.size w w' := by
  have hu118 := Try.underlying118
  have HR0_0 := Aside0.mk hr0_0
  have HC0_0 := Aside0.mk hc0_0
  clear hr0_0 hc0_0
  have HR0_1 := Aside0.mk hr0_1
  have HC0_1 := Aside0.mk hc0_1
  clear hr0_1 hc0_1
  have HR1_0 := Aside0.mk hr1_0
  have HC1_0 := Aside0.mk hc1_0
  clear hr1_0 hc1_0
  have HR1_1 := Aside0.mk hr1_1
  have HC1_1 := Aside0.mk hc1_1
  clear hr1_1 hc1_1
  have HB := Aside0.mk (Below.refl w.heap.size w)
  have H : ((spec_l00Same.f k l0_0 l1_0).bind fun t774 => (if t774 = true then ((spec_l01Same.f k l0_1 l1_1).bind fun t775 => (some t775)) else (some false))) = some r := h
  clear h
  replace H := Option.bind_eq_some_iff.mp H
  obtain ⟨t774, A30, H⟩ := H
  replace H : (if t774 = true then ((spec_l01Same.f k l0_1 l1_1).bind fun t775 => (some t775)) else (some false)) = some r := H
  have A3 := Aside0.mk A30
  clear A30
  by_cases c4 : t774 = true
  · subst c4
    have H1 : ((spec_l01Same.f k l0_1 l1_1).bind fun t775 => (some t775)) = some r := by rw [if_pos rfl] at H; exact H
    clear H
    have H := H1
    clear H1
    replace H := Option.bind_eq_some_iff.mp H
    obtain ⟨t775, A50, H⟩ := H
    replace H : (some t775) = some r := H
    have A5 := Aside0.mk A50
    clear A50
    obtain rfl := Option.some.inj H
    go_enter Try.func242, Try.ntmps242
    go_wp2_with (first | ((with_reducible refine gate_dst (N := 2) rfl ?_); refine bE (N := 2) (cs := #[.slice A0_0 l0_0.length c0_0, .slice A0_1 l0_1.length c0_1]) (t := 118) ?_; intro gb772 hg w6 hbox hb; have n0_ := Aside0.mk (below_step (w := w) bW hb); have n1_ := Aside0.mk (hbox); have n2_ := Aside0.mk (gS (w := w) hg); have n3_ := n2_; clear HB; have HB := n0_; have BK772 := n1_; have GW772 := n2_; have GE772 := n3_; clear n0_ n1_ n2_ n3_; clear hb hbox hg) | ((with_reducible refine gate_dst (N := 3) rfl ?_); refine bE (N := 3) (cs := #[.slice A1_0 l1_0.length c1_0, .slice A1_1 l1_1.length c1_1]) (t := 118) ?_; intro gb773 hg w7 hbox hb; have n0_ := Aside0.mk (kb BK772 hb); have n1_ := Aside0.mk (below_step (w := w) bW hb); have n2_ := Aside0.mk (hbox); have n3_ := Aside0.mk (gS (w := w) hg); have n4_ := n3_; have n5_ := Aside0.mk (nL BK772 hg); have n6_ := Aside0.mk (nG BK772 hg); clear BK772; clear HB; have BK772 := n0_; have HB := n1_; have BK773 := n2_; have GW773 := n3_; have GE773 := n4_; have NB772_773 := n5_; have NB773_772 := n6_; clear n0_ n1_ n2_ n3_ n4_ n5_ n6_; clear hb hbox hg; have hnb8 := NB772_773.out; have hnc8 := NB773_772.out; obtain ⟨hcz9_0, hcz9_1⟩ := cz2 BK772; obtain ⟨hfz9_0, hfz9_1⟩ := fz2 BK772; obtain ⟨hcz10_0, hcz10_1⟩ := cz2 BK773; obtain ⟨hfz10_0, hfz10_1⟩ := fz2 BK773) | ((with_reducible refine gate_callee (f := 256) rfl ?_); refine goesL_ (some 9) rfl rfl Try.func256 (by kernel_rfl) rfl #[.slice A0_0 l0_0.length c0_0, .slice A1_0 l1_0.length c1_0] rfl gA ?_; (with_reducible refine (spec_l00Same.calls k _ _ l0_0 _ _ l1_0 true _ ?side1 ?side2 ?side3 ?side4 A3.out).mono ?_); (case side1 => exact cB HR0_0); (case side2 => exact HC0_0.out); (case side3 => exact cB HR1_0); (case side4 => exact HC1_0.out); rintro e w' ⟨rfl, ⟨nd, rfl⟩⟩; refine ⟨_, rfl, ?_⟩) | (go_at_call 203; (with_reducible refine (spec_l01Same.calls k _ _ l0_1 _ _ l1_1 t775 _ ?side1 ?side2 ?side3 ?side4 A5.out).mono ?_); (case side1 => exact cB HR0_1); (case side2 => exact HC0_1.out); (case side3 => exact cB HR1_1); (case side4 => exact HC1_1.out); rintro e w' ⟨rfl, ⟨nd, rfl⟩⟩))
    go_ret
    exact ⟨rE, bW⟩
  · replace c4 := Bool.eq_false_iff.mpr c4
    subst c4
    have H1 : (some false) = some r := by rw [if_neg (show ¬ (false = true) by decide)] at H; exact H
    clear H
    have H := H1
    clear H1
    obtain rfl := Option.some.inj H
    go_enter Try.func242, Try.ntmps242
    go_wp2_with (first | ((with_reducible refine gate_dst (N := 2) rfl ?_); refine bE (N := 2) (cs := #[.slice A0_0 l0_0.length c0_0, .slice A0_1 l0_1.length c0_1]) (t := 118) ?_; intro gb772 hg w11 hbox hb; have n0_ := Aside0.mk (below_step (w := w) bW hb); have n1_ := Aside0.mk (hbox); have n2_ := Aside0.mk (gS (w := w) hg); have n3_ := n2_; clear HB; have HB := n0_; have BK772 := n1_; have GW772 := n2_; have GE772 := n3_; clear n0_ n1_ n2_ n3_; clear hb hbox hg) | ((with_reducible refine gate_dst (N := 3) rfl ?_); refine bE (N := 3) (cs := #[.slice A1_0 l1_0.length c1_0, .slice A1_1 l1_1.length c1_1]) (t := 118) ?_; intro gb773 hg w12 hbox hb; have n0_ := Aside0.mk (kb BK772 hb); have n1_ := Aside0.mk (below_step (w := w) bW hb); have n2_ := Aside0.mk (hbox); have n3_ := Aside0.mk (gS (w := w) hg); have n4_ := n3_; have n5_ := Aside0.mk (nL BK772 hg); have n6_ := Aside0.mk (nG BK772 hg); clear BK772; clear HB; have BK772 := n0_; have HB := n1_; have BK773 := n2_; have GW773 := n3_; have GE773 := n4_; have NB772_773 := n5_; have NB773_772 := n6_; clear n0_ n1_ n2_ n3_ n4_ n5_ n6_; clear hb hbox hg; have hnb13 := NB772_773.out; have hnc13 := NB773_772.out; obtain ⟨hcz14_0, hcz14_1⟩ := cz2 BK772; obtain ⟨hfz14_0, hfz14_1⟩ := fz2 BK772; obtain ⟨hcz15_0, hcz15_1⟩ := cz2 BK773; obtain ⟨hfz15_0, hfz15_1⟩ := fz2 BK773) | ((with_reducible refine gate_callee (f := 256) rfl ?_); refine goesL_ (some 9) rfl rfl Try.func256 (by kernel_rfl) rfl #[.slice A0_0 l0_0.length c0_0, .slice A1_0 l1_0.length c1_0] rfl gA ?_; (with_reducible refine (spec_l00Same.calls k _ _ l0_0 _ _ l1_0 false _ ?side1 ?side2 ?side3 ?side4 A3.out).mono ?_); (case side1 => exact cB HR0_0); (case side2 => exact HC0_0.out); (case side3 => exact cB HR1_0); (case side4 => exact HC1_0.out); rintro e w' ⟨rfl, ⟨nd, rfl⟩⟩; refine ⟨_, rfl, ?_⟩))
    go_ret
    exact ⟨rE, bW⟩
end Go.Proofs.Ytcpljigliklgcaa.Q
end

section
namespace Go.Proofs.Ytcpljigliklgcaa.Q
open Go.RowKit Go.Proofs.YtcpljigliklgcaaW.PrintWords Go.Proofs.YtcpljigliklgcaaW.PrintLast Go.Proofs.YtcpljigliklgcaaW.PrintMore
attribute [local go_sem] max2_int min2_int max_two min_two max_three min_three max_four min_four   -- for this text's walks alone
set_option linter.unusedVariables false
set_option linter.unusedSimpArgs false
attribute [local go_sem] bin_leq bin_gtr bin_geq
def spec_l03Same.l0 : Nat → List (S118) → List (S118) → Int → Option (Bool)
 | 0, _, _, _ => none
 | k + 1, x0, x1, x5 => if x5 < (x0.length : Int) then (if 0 ≤ x5 then (if x5 < (x1.length : Int) then ((spec_l03SameCommit.f k ((rd_T118 x0 x5).f0) ((rd_T118 x0 x5).f1) ((rd_T118 x1 x5).f0) ((rd_T118 x1 x5).f1)).bind fun t778 => (if t778 = true then (spec_l03Same.l0 k x0 x1 (wrap64 (x5 + 1))) else (some false))) else (none)) else (none)) else (some true)
def spec_l03Same.f (k : Nat) (l0 : List (S118)) (l1 : List (S118)) : Option (Bool) := if (l0.length : Int) = (l1.length : Int) then (spec_l03Same.l0 k l0 l1 0) else (some false)
def spec_l03Same.T6 : Bool × List (List Nat × List Nat) := (true, [([], []), ([], []), ([0, 1], [0, 1]), ([2], [2]), ([], []), ([], []), ([4, 5], [4, 5]), ([6], [6]), ([3, 7], [3, 7]), ([8], [8])])
def spec_l03Same.B6 : List Nat := [0, 0, 3, 7, 0, 0, 48, 112, 255, 511]
theorem spec_l03Same.tab6 : rtab .any (opsOf Try.f189 6) = spec_l03Same.T6 := by kernel_rfl
theorem spec_l03Same.bits6 : waitsOk spec_l03Same.T6.2 spec_l03Same.B6 = true := by kernel_rfl
set_option maxHeartbeats 8000000 in
set_option maxRecDepth 100000 in
theorem spec_l03Same.calls (k : Nat) (A0 : Option Addr) (c0 : Nat) (l0 : List (S118)) (A1 : Option Addr) (c1 : Nat) (l1 : List (S118)) (r : Bool) (w : World) (hr0 : Kd.C k118 w A0 l0.length l0) (hc0 : l0.length ≤ c0) (hr1 : Kd.C k118 w A1 l1.length l1) (hc1 : l1.length ≤ c1) (h : spec_l03Same.f k l0 l1 = some r) :
  Calls Try.prog 189 #[.slice A0 l0.length c0, .slice A1 l1.length c1] w fun e w' => e = .returned (.bool r) ∧ Below w.heap.size w w' := by
 have hu118 := Try.underlying118
 have HR0 := Aside0.mk hr0
 have HC0 := Aside0.mk hc0
 clear hr0 hc0
 have HR1 := Aside0.mk hr1
 have HC1 := Aside0.mk hc1
 clear hr1 hc1
 have HB := Aside0.mk (Below.refl w.heap.size w)
 have H : (if (l0.length : Int) = (l1.length : Int) then (spec_l03Same.l0 k l0 l1 0) else (some false)) = some r := h
 clear h
 by_cases c3 : (l0.length : Int) = (l1.length : Int)
 ·rw [if_pos c3] at H
  have c3b0 : ((l0.length : Int) == (l1.length : Int)) = true := beq_iff_eq.mpr c3
  have c3b1 : ((l0.length : Int) != (l1.length : Int)) = false := bne_eq_false_iff_eq.mpr c3
  have c3b2 : (l0.length == l1.length) = true := by first | simpa using c3 | (simp at c3 ⊢; omega)
  clear c3
  have H' := Aside0.mk H
  clear H
  go_enter Try.func189, Try.ntmps189
  go_wp2
  go_loopg [5] k (fun kq v5 w' => ∃ (x5_1 : Int), v5 = .int .i64 x5_1 ∧ Aside0 (spec_l03Same.l0 kq l0 l1 x5_1 = some r) ∧ Aside0 (kq ≤ k) ∧ Aside0 (Below w.heap.size w w'))
  case atStart => exact ⟨(0), vE, H', ⟨Nat.le_refl _⟩, ⟨bW⟩⟩
  case round =>
   clear H'
   try clear c1
   try clear p2
   try clear c3
   try clear c3b0
   try clear c3b1
   try clear c3b2
   obtain ⟨x5_1, rfl, HA, HK1, HB⟩ := hrel
   cases gk with
   | zero => exact absurd HA.out (by simp [spec_l03Same.l0])
   | succ k1 =>
    have H := HA.out
    clear HA
    simp only [spec_l03Same.l0] at H
    by_cases c4 : x5_1 < (l0.length : Int)
    ·rw [if_pos c4] at H
     have c4b0 : decide (x5_1 < (l0.length : Int)) = true := decide_eq_true c4
     clear c4
     by_cases c5 : 0 ≤ x5_1
     ·rw [if_pos c5] at H
      have c5b0 : decide (0 ≤ x5_1) = true := decide_eq_true c5
      clear c5
      by_cases c6 : x5_1 < (l1.length : Int)
      ·rw [if_pos c6] at H
       have c6b0 : decide (x5_1 < (l1.length : Int)) = true := decide_eq_true c6
       clear c6
       replace H := Option.bind_eq_some_iff.mp H
       obtain ⟨t778, A70, H⟩ := H
       replace H : (if t778 = true then (spec_l03Same.l0 k1 l0 l1 (wrap64 (x5_1 + 1))) else (some false)) = some r := H
       have A7 := Aside0.mk A70
       clear A70
       by_cases c8 : t778 = true
       ·subst c8
        have H1 : (spec_l03Same.l0 k1 l0 l1 (wrap64 (x5_1 + 1))) = some r := by rw [if_pos rfl] at H; exact H
        clear H
        have H := H1
        clear H1
        have H' := Aside0.mk H
        clear H
        try go_wp2
        have n0_ := Aside0.mk (below_drew1 HB.out)
        clear HB
        have HB := n0_
        clear n0_
        have p776 : 0 ≤ (x5_1 : Int) := odt
        have q776 : x5_1 < (l0.length : Int) := odt
        obtain ⟨ad776, A776_0, c776_0, A776_1, c776_1, e776, hx776_0, hx776_1, hl776_0, hi776_0, hl776_1, hi776_1⟩ := at_T118 HR0.out x5_1 p776 q776
        have hw776_1 := hx776_1
        have hw776_0 := hx776_0
        cases e776
        replace hx776_0 := (HB.out.cell (World.block_lt_of_cell? w _ hx776_0)).trans hx776_0
        replace hx776_1 := (HB.out.cell (World.block_lt_of_cell? w _ hx776_1)).trans hx776_1
        have HR776_0 := Aside0.mk hi776_0
        have HC776_0 := Aside0.mk hl776_0
        clear hi776_0 hl776_0
        have HR776_1 := Aside0.mk hi776_1
        have HC776_1 := Aside0.mk hl776_1
        clear hi776_1 hl776_1
        replace p776 := eq_true p776
        replace q776 := eq_true q776
        have p777 : 0 ≤ (x5_1 : Int) := odt
        have q777 : x5_1 < (l1.length : Int) := odt
        obtain ⟨ad777, A777_0, c777_0, A777_1, c777_1, e777, hx777_0, hx777_1, hl777_0, hi777_0, hl777_1, hi777_1⟩ := at_T118 HR1.out x5_1 p777 q777
        have hw777_1 := hx777_1
        have hw777_0 := hx777_0
        cases e777
        replace hx777_0 := (HB.out.cell (World.block_lt_of_cell? w _ hx777_0)).trans hx777_0
        replace hx777_1 := (HB.out.cell (World.block_lt_of_cell? w _ hx777_1)).trans hx777_1
        have HR777_0 := Aside0.mk hi777_0
        have HC777_0 := Aside0.mk hl777_0
        clear hi777_0 hl777_0
        have HR777_1 := Aside0.mk hi777_1
        have HC777_1 := Aside0.mk hl777_1
        clear hi777_1 hl777_1
        replace p777 := eq_true p777
        replace q777 := eq_true q777
        refine start_ (n := 10) (S := fun w' => w'.cell? (ad776.add ((x5_1).toNat * 2)) = some (.slice A776_0 ((rd_T118 l0 x5_1).f0).length c776_0) ∧ w'.cell? ⟨(ad776.add ((x5_1).toNat * 2)).block, (ad776.add ((x5_1).toNat * 2)).off + 1, none⟩ = some (.slice A776_1 ((rd_T118 l0 x5_1).f1).length c776_1) ∧ w'.cell? (ad777.add ((x5_1).toNat * 2)) = some (.slice A777_0 ((rd_T118 l1 x5_1).f0).length c777_0) ∧ w'.cell? ⟨(ad777.add ((x5_1).toNat * 2)).block, (ad777.add ((x5_1).toNat * 2)).off + 1, none⟩ = some (.slice A777_1 ((rd_T118 l1 x5_1).f1).length c777_1)) (ds := []) #[false, false, false, false, false, false, false, false, false, false] (by kernel_rfl) rfl rfl ⟨((HB.out.cell (World.block_lt_of_cell? w _ hw776_0)).trans hw776_0), ((HB.out.cell (World.block_lt_of_cell? w _ hw776_1)).trans hw776_1), ((HB.out.cell (World.block_lt_of_cell? w _ hw777_0)).trans hw777_0), ((HB.out.cell (World.block_lt_of_cell? w _ hw777_1)).trans hw777_1)⟩ (fun hHeld => ?_); refine with_tabW spec_l03Same.tab6 spec_l03Same.bits6 (fun HT_ HW_ => ?_)
        generalize wr.drew = w9 at HB HR776_0 HR776_1 HR777_0 HR777_1 hx776_0 hx776_1 hx777_0 hx777_1 hHeld ⊢
        refine pure_ (i := 0) (N := some 17) (v := ?_) (a' := ?_) #[true, false, false, false, false, false, false, false, false, false] rfl rfl (any_of HT_.out (by kernel_rfl)) (fun _ _ _ h => h) (Or.inl ⟨by rfl, ?_⟩) ?_ ?_
        rotate_left
        ·intro w'
         go_simp
         with_reducible rfl
        rotate_left
        ·simp only [Act.put, List.setIfInBounds_toArray, List.set_cons_zero, List.set_cons_succ, i64_w, i32_w]
         rfl
        refine pure_ (i := 1) (N := some 18) (v := ?_) (a' := ?_) #[true, true, false, false, false, false, false, false, false, false] rfl rfl (any_of HT_.out (by kernel_rfl)) (fun _ _ _ h => h) (Or.inl ⟨by rfl, ?_⟩) ?_ ?_
        rotate_left
        ·intro w'
         go_simp
         with_reducible rfl
        rotate_left
        ·simp only [Act.put, List.setIfInBounds_toArray, List.set_cons_zero, List.set_cons_succ, i64_w, i32_w]
         rfl
        refine pure_ (i := 2) (N := some 19) (v := ?_) (a' := ?_) #[true, true, true, false, false, false, false, false, false, false] rfl rfl (any_of HT_.out (by kernel_rfl)) (fun _ _ _ h => h) (Or.inl ⟨by rfl, ?_⟩) ?_ ?_
        rotate_left
        ·intro w'
         go_simp
         with_reducible rfl
        rotate_left
        ·simp only [Act.put, List.setIfInBounds_toArray, List.set_cons_zero, List.set_cons_succ, i64_w, i32_w]
         rfl
        refine pure_ (i := 4) (N := some 21) (v := ?_) (a' := ?_) #[true, true, true, false, true, false, false, false, false, false] rfl rfl (any_of HT_.out (by kernel_rfl)) (fun _ _ _ h => h) (Or.inl ⟨by rfl, ?_⟩) ?_ ?_
        rotate_left
        ·intro w'
         go_simp
         with_reducible rfl
        rotate_left
        ·simp only [Act.put, List.setIfInBounds_toArray, List.set_cons_zero, List.set_cons_succ, i64_w, i32_w]
         rfl
        refine pure_ (i := 5) (N := some 22) (v := ?_) (a' := ?_) #[true, true, true, false, true, true, false, false, false, false] rfl rfl (any_of HT_.out (by kernel_rfl)) (fun _ _ _ h => h) (Or.inl ⟨by rfl, ?_⟩) ?_ ?_
        rotate_left
        ·intro w'
         go_simp
         with_reducible rfl
        rotate_left
        ·simp only [Act.put, List.setIfInBounds_toArray, List.set_cons_zero, List.set_cons_succ, i64_w, i32_w]
         rfl
        refine pure_ (i := 6) (N := some 23) (v := ?_) (a' := ?_) #[true, true, true, false, true, true, true, false, false, false] rfl rfl (any_of HT_.out (by kernel_rfl)) (fun _ _ _ h => h) (Or.inl ⟨by rfl, ?_⟩) ?_ ?_
        rotate_left
        ·intro w'
         go_simp
         with_reducible rfl
        rotate_left
        ·simp only [Act.put, List.setIfInBounds_toArray, List.set_cons_zero, List.set_cons_succ, i64_w, i32_w]
         rfl
        refine take_ (i := 3) (N := some 20) (v := ?_) (a' := ?_) #[true, true, true, true, true, true, true, false, false, false] rfl rfl (take_ofW HT_.out HW_.out (by kernel_rfl)) (fun _ _ _ h => h) (Or.inl ⟨by rfl, ?_⟩) hHeld ?_ ?_
        rotate_left
        ·rintro w' ⟨s0, s1, s2, s3⟩
         go_simp
         with_reducible rfl
        rotate_left
        ·simp only [Act.put, List.setIfInBounds_toArray, List.set_cons_zero, List.set_cons_succ, i64_w, i32_w]
         rfl
        refine take_ (i := 7) (N := some 24) (v := ?_) (a' := ?_) #[true, true, true, true, true, true, true, true, false, false] rfl rfl (take_ofW HT_.out HW_.out (by kernel_rfl)) (fun _ _ _ h => h) (Or.inl ⟨by rfl, ?_⟩) hHeld ?_ ?_
        rotate_left
        ·rintro w' ⟨s0, s1, s2, s3⟩
         go_simp
         with_reducible rfl
        rotate_left
        ·simp only [Act.put, List.setIfInBounds_toArray, List.set_cons_zero, List.set_cons_succ, i64_w, i32_w]
         rfl
        refine one_ (i := 8) (N := some 25) #[true, true, true, true, true, true, true, true, true, false] rfl rfl (one_of HT_.out (by kernel_rfl)) (by decide) (fun K hK => ?_)
        refine goes_ Try.func242 (by kernel_rfl) rfl #[.agg #[.slice A776_0 ((rd_T118 l0 x5_1).f0).length c776_0, .slice A776_1 ((rd_T118 l0 x5_1).f1).length c776_1], .agg #[.slice A777_0 ((rd_T118 l1 x5_1).f0).length c777_0, .slice A777_1 ((rd_T118 l1 x5_1).f1).length c777_1]] (by rfl) rfl rfl gA ?_
        with_reducible refine (spec_l03SameCommit.calls k1 _ _ ((rd_T118 l0 x5_1).f0) _ _ ((rd_T118 l0 x5_1).f1) _ _ ((rd_T118 l1 x5_1).f0) _ _ ((rd_T118 l1 x5_1).f1) true _ ?side1 ?side2 ?side3 ?side4 ?side5 ?side6 ?side7 ?side8 A7.out).mono ?_
        (case side1 => exact cB HR776_0)
        (case side2 => exact HC776_0.out)
        (case side3 => exact cB HR776_1)
        (case side4 => exact HC776_1.out)
        (case side5 => exact cB HR777_0)
        (case side6 => exact HC777_0.out)
        (case side7 => exact cB HR777_1)
        (case side8 => exact HC777_1.out)
        rintro e w10 ⟨rfl, hb⟩
        refine ⟨_, rfl, ?_⟩
        have n0_ := Aside0.mk (below_step (w := w) bW hb)
        clear HB
        have HB := n0_
        clear n0_
        (try clear hb)
        (try clear hb2)
        (try clear hk)
        (try clear hi)
        refine hK.out _ _ ⟨((HB.out.cell (World.block_lt_of_cell? w _ hw776_0)).trans hw776_0), ((HB.out.cell (World.block_lt_of_cell? w _ hw776_1)).trans hw776_1), ((HB.out.cell (World.block_lt_of_cell? w _ hw777_0)).trans hw777_0), ((HB.out.cell (World.block_lt_of_cell? w _ hw777_1)).trans hw777_1)⟩ (fun hHeld => ?_)
        clear hK K
        refine norm_ (a' := ?_) ?_ ?_
        rotate_left
        ·show Act.put _ (some 25) _ = _
         simp only [Act.put, List.setIfInBounds_toArray, List.set_cons_zero, List.set_cons_succ, i64_w, i32_w]
         rfl
        refine pure_ (i := 9) (N := some 26) (v := ?_) (a' := ?_) #[true, true, true, true, true, true, true, true, true, true] rfl rfl (any_of HT_.out (by kernel_rfl)) (fun _ _ _ h => h) (Or.inl ⟨by rfl, ?_⟩) ?_ ?_
        rotate_left
        ·intro w'
         go_simp
         with_reducible rfl
        rotate_left
        ·simp only [Act.put, List.setIfInBounds_toArray, List.set_cons_zero, List.set_cons_succ, i64_w, i32_w]
         rfl
        refine done_ (done_of HT_.out (by kernel_rfl)) ?_
        try go_wp2
        go_roundg k1
        case measure => have := HK1.out; omega
        case rel => exact ⟨(wrap64 (x5_1 + 1)), vE, H', ⟨by have := HK1.out; omega⟩, ⟨bW⟩⟩
       ·replace c8 := Bool.eq_false_iff.mpr c8
        subst c8
        have H1 : (some false) = some r := by rw [if_neg (show ¬ (false = true) by decide)] at H; exact H
        clear H
        have H := H1
        clear H1
        obtain rfl := Option.some.inj H
        try go_wp2
        have n0_ := Aside0.mk (below_drew1 HB.out)
        clear HB
        have HB := n0_
        clear n0_
        have p776 : 0 ≤ (x5_1 : Int) := odt
        have q776 : x5_1 < (l0.length : Int) := odt
        obtain ⟨ad776, A776_0, c776_0, A776_1, c776_1, e776, hx776_0, hx776_1, hl776_0, hi776_0, hl776_1, hi776_1⟩ := at_T118 HR0.out x5_1 p776 q776
        have hw776_1 := hx776_1
        have hw776_0 := hx776_0
        cases e776
        replace hx776_0 := (HB.out.cell (World.block_lt_of_cell? w _ hx776_0)).trans hx776_0
        replace hx776_1 := (HB.out.cell (World.block_lt_of_cell? w _ hx776_1)).trans hx776_1
        have HR776_0 := Aside0.mk hi776_0
        have HC776_0 := Aside0.mk hl776_0
        clear hi776_0 hl776_0
        have HR776_1 := Aside0.mk hi776_1
        have HC776_1 := Aside0.mk hl776_1
        clear hi776_1 hl776_1
        replace p776 := eq_true p776
        replace q776 := eq_true q776
        have p777 : 0 ≤ (x5_1 : Int) := odt
        have q777 : x5_1 < (l1.length : Int) := odt
        obtain ⟨ad777, A777_0, c777_0, A777_1, c777_1, e777, hx777_0, hx777_1, hl777_0, hi777_0, hl777_1, hi777_1⟩ := at_T118 HR1.out x5_1 p777 q777
        have hw777_1 := hx777_1
        have hw777_0 := hx777_0
        cases e777
        replace hx777_0 := (HB.out.cell (World.block_lt_of_cell? w _ hx777_0)).trans hx777_0
        replace hx777_1 := (HB.out.cell (World.block_lt_of_cell? w _ hx777_1)).trans hx777_1
        have HR777_0 := Aside0.mk hi777_0
        have HC777_0 := Aside0.mk hl777_0
        clear hi777_0 hl777_0
        have HR777_1 := Aside0.mk hi777_1
        have HC777_1 := Aside0.mk hl777_1
        clear hi777_1 hl777_1
        replace p777 := eq_true p777
        replace q777 := eq_true q777
        refine start_ (n := 10) (S := fun w' => w'.cell? (ad776.add ((x5_1).toNat * 2)) = some (.slice A776_0 ((rd_T118 l0 x5_1).f0).length c776_0) ∧ w'.cell? ⟨(ad776.add ((x5_1).toNat * 2)).block, (ad776.add ((x5_1).toNat * 2)).off + 1, none⟩ = some (.slice A776_1 ((rd_T118 l0 x5_1).f1).length c776_1) ∧ w'.cell? (ad777.add ((x5_1).toNat * 2)) = some (.slice A777_0 ((rd_T118 l1 x5_1).f0).length c777_0) ∧ w'.cell? ⟨(ad777.add ((x5_1).toNat * 2)).block, (ad777.add ((x5_1).toNat * 2)).off + 1, none⟩ = some (.slice A777_1 ((rd_T118 l1 x5_1).f1).length c777_1)) (ds := []) #[false, false, false, false, false, false, false, false, false, false] (by kernel_rfl) rfl rfl ⟨((HB.out.cell (World.block_lt_of_cell? w _ hw776_0)).trans hw776_0), ((HB.out.cell (World.block_lt_of_cell? w _ hw776_1)).trans hw776_1), ((HB.out.cell (World.block_lt_of_cell? w _ hw777_0)).trans hw777_0), ((HB.out.cell (World.block_lt_of_cell? w _ hw777_1)).trans hw777_1)⟩ (fun hHeld => ?_); refine with_tabW spec_l03Same.tab6 spec_l03Same.bits6 (fun HT_ HW_ => ?_)
        generalize wr.drew = w11 at HB HR776_0 HR776_1 HR777_0 HR777_1 hx776_0 hx776_1 hx777_0 hx777_1 hHeld ⊢
        refine pure_ (i := 0) (N := some 17) (v := ?_) (a' := ?_) #[true, false, false, false, false, false, false, false, false, false] rfl rfl (any_of HT_.out (by kernel_rfl)) (fun _ _ _ h => h) (Or.inl ⟨by rfl, ?_⟩) ?_ ?_
        rotate_left
        ·intro w'
         go_simp
         with_reducible rfl
        rotate_left
        ·simp only [Act.put, List.setIfInBounds_toArray, List.set_cons_zero, List.set_cons_succ, i64_w, i32_w]
         rfl
        refine pure_ (i := 1) (N := some 18) (v := ?_) (a' := ?_) #[true, true, false, false, false, false, false, false, false, false] rfl rfl (any_of HT_.out (by kernel_rfl)) (fun _ _ _ h => h) (Or.inl ⟨by rfl, ?_⟩) ?_ ?_
        rotate_left
        ·intro w'
         go_simp
         with_reducible rfl
        rotate_left
        ·simp only [Act.put, List.setIfInBounds_toArray, List.set_cons_zero, List.set_cons_succ, i64_w, i32_w]
         rfl
        refine pure_ (i := 2) (N := some 19) (v := ?_) (a' := ?_) #[true, true, true, false, false, false, false, false, false, false] rfl rfl (any_of HT_.out (by kernel_rfl)) (fun _ _ _ h => h) (Or.inl ⟨by rfl, ?_⟩) ?_ ?_
        rotate_left
        ·intro w'
         go_simp
         with_reducible rfl
        rotate_left
        ·simp only [Act.put, List.setIfInBounds_toArray, List.set_cons_zero, List.set_cons_succ, i64_w, i32_w]
         rfl
        refine pure_ (i := 4) (N := some 21) (v := ?_) (a' := ?_) #[true, true, true, false, true, false, false, false, false, false] rfl rfl (any_of HT_.out (by kernel_rfl)) (fun _ _ _ h => h) (Or.inl ⟨by rfl, ?_⟩) ?_ ?_
        rotate_left
        ·intro w'
         go_simp
         with_reducible rfl
        rotate_left
        ·simp only [Act.put, List.setIfInBounds_toArray, List.set_cons_zero, List.set_cons_succ, i64_w, i32_w]
         rfl
        refine pure_ (i := 5) (N := some 22) (v := ?_) (a' := ?_) #[true, true, true, false, true, true, false, false, false, false] rfl rfl (any_of HT_.out (by kernel_rfl)) (fun _ _ _ h => h) (Or.inl ⟨by rfl, ?_⟩) ?_ ?_
        rotate_left
        ·intro w'
         go_simp
         with_reducible rfl
        rotate_left
        ·simp only [Act.put, List.setIfInBounds_toArray, List.set_cons_zero, List.set_cons_succ, i64_w, i32_w]
         rfl
        refine pure_ (i := 6) (N := some 23) (v := ?_) (a' := ?_) #[true, true, true, false, true, true, true, false, false, false] rfl rfl (any_of HT_.out (by kernel_rfl)) (fun _ _ _ h => h) (Or.inl ⟨by rfl, ?_⟩) ?_ ?_
        rotate_left
        ·intro w'
         go_simp
         with_reducible rfl
        rotate_left
        ·simp only [Act.put, List.setIfInBounds_toArray, List.set_cons_zero, List.set_cons_succ, i64_w, i32_w]
         rfl
        refine take_ (i := 3) (N := some 20) (v := ?_) (a' := ?_) #[true, true, true, true, true, true, true, false, false, false] rfl rfl (take_ofW HT_.out HW_.out (by kernel_rfl)) (fun _ _ _ h => h) (Or.inl ⟨by rfl, ?_⟩) hHeld ?_ ?_
        rotate_left
        ·rintro w' ⟨s0, s1, s2, s3⟩
         go_simp
         with_reducible rfl
        rotate_left
        ·simp only [Act.put, List.setIfInBounds_toArray, List.set_cons_zero, List.set_cons_succ, i64_w, i32_w]
         rfl
        refine take_ (i := 7) (N := some 24) (v := ?_) (a' := ?_) #[true, true, true, true, true, true, true, true, false, false] rfl rfl (take_ofW HT_.out HW_.out (by kernel_rfl)) (fun _ _ _ h => h) (Or.inl ⟨by rfl, ?_⟩) hHeld ?_ ?_
        rotate_left
        ·rintro w' ⟨s0, s1, s2, s3⟩
         go_simp
         with_reducible rfl
        rotate_left
        ·simp only [Act.put, List.setIfInBounds_toArray, List.set_cons_zero, List.set_cons_succ, i64_w, i32_w]
         rfl
        refine one_ (i := 8) (N := some 25) #[true, true, true, true, true, true, true, true, true, false] rfl rfl (one_of HT_.out (by kernel_rfl)) (by decide) (fun K hK => ?_)
        refine goes_ Try.func242 (by kernel_rfl) rfl #[.agg #[.slice A776_0 ((rd_T118 l0 x5_1).f0).length c776_0, .slice A776_1 ((rd_T118 l0 x5_1).f1).length c776_1], .agg #[.slice A777_0 ((rd_T118 l1 x5_1).f0).length c777_0, .slice A777_1 ((rd_T118 l1 x5_1).f1).length c777_1]] (by rfl) rfl rfl gA ?_
        with_reducible refine (spec_l03SameCommit.calls k1 _ _ ((rd_T118 l0 x5_1).f0) _ _ ((rd_T118 l0 x5_1).f1) _ _ ((rd_T118 l1 x5_1).f0) _ _ ((rd_T118 l1 x5_1).f1) false _ ?side1 ?side2 ?side3 ?side4 ?side5 ?side6 ?side7 ?side8 A7.out).mono ?_
        (case side1 => exact cB HR776_0)
        (case side2 => exact HC776_0.out)
        (case side3 => exact cB HR776_1)
        (case side4 => exact HC776_1.out)
        (case side5 => exact cB HR777_0)
        (case side6 => exact HC777_0.out)
        (case side7 => exact cB HR777_1)
        (case side8 => exact HC777_1.out)
        rintro e w12 ⟨rfl, hb⟩
        refine ⟨_, rfl, ?_⟩
        have n0_ := Aside0.mk (below_step (w := w) bW hb)
        clear HB
        have HB := n0_
        clear n0_
        (try clear hb)
        (try clear hb2)
        (try clear hk)
        (try clear hi)
        refine hK.out _ _ ⟨((HB.out.cell (World.block_lt_of_cell? w _ hw776_0)).trans hw776_0), ((HB.out.cell (World.block_lt_of_cell? w _ hw776_1)).trans hw776_1), ((HB.out.cell (World.block_lt_of_cell? w _ hw777_0)).trans hw777_0), ((HB.out.cell (World.block_lt_of_cell? w _ hw777_1)).trans hw777_1)⟩ (fun hHeld => ?_)
        clear hK K
        refine norm_ (a' := ?_) ?_ ?_
        rotate_left
        ·show Act.put _ (some 25) _ = _
         simp only [Act.put, List.setIfInBounds_toArray, List.set_cons_zero, List.set_cons_succ, i64_w, i32_w]
         rfl
        refine pure_ (i := 9) (N := some 26) (v := ?_) (a' := ?_) #[true, true, true, true, true, true, true, true, true, true] rfl rfl (any_of HT_.out (by kernel_rfl)) (fun _ _ _ h => h) (Or.inl ⟨by rfl, ?_⟩) ?_ ?_
        rotate_left
        ·intro w'
         go_simp
         with_reducible rfl
        rotate_left
        ·simp only [Act.put, List.setIfInBounds_toArray, List.set_cons_zero, List.set_cons_succ, i64_w, i32_w]
         rfl
        refine done_ (done_of HT_.out (by kernel_rfl)) ?_
        try go_wp2
        go_ret
        exact ⟨rE, bW⟩
      ·rw [if_neg c6] at H
       exact absurd H (by simp)
     ·rw [if_neg c5] at H
      exact absurd H (by simp)
    ·rw [if_neg c4] at H
     have c4b0 : decide (x5_1 < (l0.length : Int)) = false := decide_eq_false c4
     clear c4
     obtain rfl := Option.some.inj H
     go_wp2
     go_ret
     exact ⟨rE, bW⟩
 ·rw [if_neg c3] at H
  have c3b0 : ((l0.length : Int) == (l1.length : Int)) = false := beq_eq_false_iff_ne.mpr c3
  have c3b1 : ((l0.length : Int) != (l1.length : Int)) = true := bne_iff_ne.mpr c3
  have c3b2 : (l0.length == l1.length) = false := by first | simpa using c3 | (simp at c3 ⊢; omega)
  obtain rfl := Option.some.inj H
  go_enter Try.func189, Try.ntmps189
  go_wp2
  go_ret
  exact ⟨rE, bW⟩
end Go.Proofs.Ytcpljigliklgcaa.Q
end
